/- Intervals: what the program and the document answer, in pairs. No conditions but bounds on lengths. -/
import Derived.Test.YthpngihjcphigaaGreatRTelU
import Derived.Test.YthpngihjcphigaaGreatRItwC
import Derived.Test.YthpngihjcphigaaGreatRWhV
import Derived.Test.YthpngihjcphigaaGreatRWhJ
import Derived.Test.YthpngihjcphigaaGreatRItvR
set_option linter.unusedVariables false
set_option linter.unusedSimpArgs false
set_option maxRecDepth 100000
set_option maxHeartbeats 40000000
namespace Go.Proofs.YthpngihjcphigaaGreat
open Go.Lib (hid)
open Go.RowKit
variable {A B C D : Option Addr} {N a b c d g h : Nat} {P Q : IvP} {V W w : World} {Z Z1 Z2 Z3 Z4 : Zone} {a0 a1 a2 a3 a4 a5 b0 b1 b2 b3 b4 b5 x0 x1 x2 x3 x4 x5 : Value} {l l' rl : List Nat} {m n n' r rs s s' t : Bool} {p q : Iv} {x y : Int}
theorem NoU.new6 (w : World) (n0 s0 n1 s1 : Bool) (A B : Option Addr) (a c b d : Nat) (t : TypeId) : NoU (w.alloc (.cells #[.bool n0, .bool s0, .slice A a c, .bool n1, .bool s1, .slice B b d] t)) w.heap.size := fun o m e => by
 have h := cell_of_row (w.alloc (.cells #[.bool n0, .bool s0, .slice A a c, .bool n1, .bool s1, .slice B b d] t)) w.heap.size o #[.bool n0, .bool s0, .slice A a c, .bool n1, .bool s1, .slice B b d] t (0, 0) (heap_alloc_new w _)
 rw [h] at e
 match o, e with
 | 0, e => cases e
 | 1, e => cases e
 | 2, e => cases e
 | 3, e => cases e
 | 4, e => cases e
 | 5, e => cases e
 | o + 6, e => simp at e
theorem U64s.awayJ (h : U64s w Z A c l) : ∃ Y : Zone, U64s w Y A c l ∧ ∀ g, w.heap.size ≤ g → ¬ Y.blk g :=
 ⟨⟨fun b => b < w.heap.size, False⟩, ⟨h.small, h.cap, h.max, h.nul, fun h0 => by
  obtain ⟨b, o, e, hz, _, hc⟩ := h.row h0
  exact ⟨b, o, e, lt_of_cell (hc 0 _ (List.getElem?_eq_getElem h0)), fun h => h.elim, hc⟩⟩, fun g hg (hb : g < w.heap.size) => by omega⟩
theorem U64s.set6n (u : U64s w Z A c l) (h : NoU w g) (x0 x1 x2 x3 x4 x5 : Value) : U64s ((((((w.setCell ⟨g, 0, none⟩ x0).setCell ⟨g, 1, none⟩ x1).setCell ⟨g, 2, none⟩ x2).setCell ⟨g, 3, none⟩ x3).setCell ⟨g, 4, none⟩ x4).setCell ⟨g, 5, none⟩ x5) old A c l :=
 ((u.offB h).set6 (g := g) (fun h => h rfl) x0 x1 x2 x3 x4 x5).mono (le_old _)
theorem c4_st6 {r i j k l : Nat} {a b c d : Value} (hg : r ≠ g) (hh : r ≠ h) (hs : (W.cell? ⟨g, i, none⟩ = some a ∧ W.cell? ⟨g, j, none⟩ = some b) ∧ W.cell? ⟨h, k, none⟩ = some c ∧ W.cell? ⟨h, l, none⟩ = some d) :
 ((((((((W.setCell ⟨r, 0, none⟩ x0).setCell ⟨r, 1, none⟩ x1).setCell ⟨r, 2, none⟩ x2).setCell ⟨r, 3, none⟩ x3).setCell ⟨r, 4, none⟩ x4).setCell ⟨r, 5, none⟩ x5).cell? ⟨g, i, none⟩ = some a ∧ ((((((W.setCell ⟨r, 0, none⟩ x0).setCell ⟨r, 1, none⟩ x1).setCell ⟨r, 2, none⟩ x2).setCell ⟨r, 3, none⟩ x3).setCell ⟨r, 4, none⟩ x4).setCell ⟨r, 5, none⟩ x5).cell? ⟨g, j, none⟩ = some b) ∧ ((((((W.setCell ⟨r, 0, none⟩ x0).setCell ⟨r, 1, none⟩ x1).setCell ⟨r, 2, none⟩ x2).setCell ⟨r, 3, none⟩ x3).setCell ⟨r, 4, none⟩ x4).setCell ⟨r, 5, none⟩ x5).cell? ⟨h, k, none⟩ = some c ∧ ((((((W.setCell ⟨r, 0, none⟩ x0).setCell ⟨r, 1, none⟩ x1).setCell ⟨r, 2, none⟩ x2).setCell ⟨r, 3, none⟩ x3).setCell ⟨r, 4, none⟩ x4).setCell ⟨r, 5, none⟩ x5).cell? ⟨h, l, none⟩ = some d) := ⟨⟨st6 hs.1.1 hg, st6 hs.1.2 hg⟩, st6 hs.2.1 hh, st6 hs.2.2 hh⟩
theorem r16end_w (n : Nm x s l) (hl : l.length ≤ 1000) (u : U64s w Z A c l) :
  Calls Tryz.prog 82 #[.agg #[.bool s, .slice A l.length c]] w fun e w' => ∃ B d, e = .returned (.agg #[.bool false, .bool s, .slice B l.length d]) ∧ U64s w' (new w.heap.size) B d l ∧ Below w.heap.size w w' := by
 obtain ⟨bA, bR, hB0⟩ := boxR w (.bool s) (.slice A l.length c) (.bool false) (.bool false) (.slice none 0 0) 25 27
 obtain ⟨s', l', n'⟩ : ∃ s l, Nm (-x) s l := ⟨_, _, rfl, rfl⟩
 have hl' : l'.length ≤ 1000 := by rw [n'.2, Int.natAbs_neg, ← n.2]; exact hl
 obtain ⟨T1, T2, HR, HB⟩ := hid4 (r5turned_v n n' rfl (by omega) (u.below hB0)) (fun (W : World) (B : Option Addr) (d : Nat) (Y : Zone) (v : U64s W Y B d l') => r5turned_v n' n (Int.neg_neg x) (by omega) v) bR hB0
 obtain ⟨a0, a1, _, _, _⟩ := bA
 clear u hB0 bR n n' hl hl'
 go_enter Tryz.func82, Tryz.ntmps82
 go_wp2_with fail
 refine T1.out.mono ?_
 rintro e w1 ⟨A1, c1, rfl, u1, hc⟩
 obtain ⟨H1, R1⟩ := hid2 (from_ HB.out hc) (HR.out.below hc)
 clear hc a0 a1
 go_wp2_with fail
 refine (T2.out _ _ _ _ u1).mono ?_
 rintro e w2 ⟨A2, c2, rfl, u2, hc⟩
 have H2 := from_ H1.out hc
 have R2 := R1.out.below hc
 have z := R1.out.lt
 have hP := R2.put H2 (by omega) (.bool false) (.bool s) (.slice A2 l.length c2)
 have hu := hP.keep (fun (h : _ ≤ w.heap.size + 1) => by omega) u2
 obtain ⟨HP, HU⟩ := hid2 hP hu
 have h1 := H1.out.size
 obtain ⟨q0, q1, q2, f0, f1, f2, _⟩ := R2
 clear hP hu u1 u2 hc H2 z
 go_wp2
 refine bodyPost_ret (res_bound rfl _ (w.heap.size + 1) rfl HP.out.c0 HP.out.c1 HP.out.c2) rfl ?_
 exact ⟨_, _, rfl, HU.out.mono (new_le h1), HP.out.bel⟩
theorem boxBt (w : World) (a0 a1 b0 b1 r0 r1 r2 r3 r4 r5 : Value) (t u : TypeId) :
  (Box (((w.alloc (.cells #[a0, a1] t)).alloc (.cells #[b0, b1] t)).alloc (.cells #[r0, r1, r2, r3, r4, r5] u)) w.heap.size a0 a1 ∧
  Box (((w.alloc (.cells #[a0, a1] t)).alloc (.cells #[b0, b1] t)).alloc (.cells #[r0, r1, r2, r3, r4, r5] u)) (w.heap.size + 1) b0 b1) ∧
  Box6 (((w.alloc (.cells #[a0, a1] t)).alloc (.cells #[b0, b1] t)).alloc (.cells #[r0, r1, r2, r3, r4, r5] u)) (w.heap.size + 2) r0 r1 r2 r3 r4 r5 ∧
  Below w.heap.size w (((w.alloc (.cells #[a0, a1] t)).alloc (.cells #[b0, b1] t)).alloc (.cells #[r0, r1, r2, r3, r4, r5] u)) := by
 have h1 := ((Box.new w a0 a1 t).alloc (.cells #[b0, b1] t)).alloc (.cells #[r0, r1, r2, r3, r4, r5] u)
 have h2 := (Box.new (w.alloc (.cells #[a0, a1] t)) b0 b1 t).alloc (.cells #[r0, r1, r2, r3, r4, r5] u)
 have h3 := Box6.new ((w.alloc (.cells #[a0, a1] t)).alloc (.cells #[b0, b1] t)) r0 r1 r2 r3 r4 r5 u
 simp only [World.size_alloc] at h2 h3
 exact ⟨⟨h1, h2⟩, h3, (((Below.refl _ w).alloc (Nat.le_refl _) _).alloc (by simp) _).alloc (by simp; omega) _⟩
theorem r16between_w {k : List Nat} (n : Nm x s l) (m : Nm y t k) (hl : l.length ≤ 1000) (hk : k.length ≤ 1000) (u : U64s w Z1 A c l) (v : U64s w Z2 B d k) :
  Calls Tryz.prog 48 #[.agg #[.bool s, .slice A l.length c], .agg #[.bool t, .slice B k.length d]] w fun e w' => ∃ A1 c1 A2 c2, e = .returned (.agg #[.bool false, .bool s, .slice A1 l.length c1, .bool false, .bool t, .slice A2 k.length c2]) ∧ U64s w' (new w.heap.size) A1 c1 l ∧ U64s w' (new w.heap.size) A2 c2 k ∧ Below w.heap.size w w' := by
 obtain ⟨⟨bA, bB⟩, bR, hB0⟩ := boxBt w (.bool s) (.slice A l.length c) (.bool t) (.slice B k.length d) (.bool false) (.bool false) (.slice none 0 0) (.bool false) (.bool false) (.slice none 0 0) 25 29
 obtain ⟨C1, C2⟩ := hid2 (fun (W : World) (h : Below w.heap.size w W) => r16end_w n hl (u.below h)) (fun (W : World) (h : Below w.heap.size w W) => r16end_w m hk (v.below h))
 have s0 := bA.c0
 have s1 := bA.c1
 have s2 := bB.c0
 have s3 := bB.c1
 obtain ⟨HR, HB⟩ := hid2 bR hB0
 clear u v bA bB bR hB0 n m hl hk
 have hs := (show (_ ∧ _) ∧ _ ∧ _ from ⟨⟨s0, s1⟩, s2, s3⟩)
 replace hs := c4_keep hs bdr_
 have Hc := hid HB.out.drew
 replace HR := hid (HR.out.below bdr_)
 clear s0 s1 s2 s3
 obtain ⟨gR, hgR⟩ : ∃ gR, gR = w.heap.size + 2 := ⟨_, rfl⟩
 rw [← hgR] at HR
 go_enter Tryz.func48, Tryz.ntmps48
 go_upto_region 1 with fail
 (try simp only [show w.heap.size + 1 + 1 = w.heap.size + 2 from rfl])
 simp only [show w.heap.size + 2 = gR from hgR.symm]
 obtain ⟨N1, N2, N3⟩ := hid3 (show gR ≠ w.heap.size by omega) (show gR ≠ w.heap.size + 1 by omega) (show w.heap.size ≤ gR by omega)
 clear hgR HB
 first | go_region_held3 (fun w' => (w'.cell? ⟨w.heap.size, 0, none⟩ = some (.bool s) ∧ w'.cell? ⟨w.heap.size, 1, none⟩ = some (.slice A l.length c)) ∧ w'.cell? ⟨w.heap.size + 1, 0, none⟩ = some (.bool t) ∧ w'.cell? ⟨w.heap.size + 1, 1, none⟩ = some (.slice B k.length d))
  (first
   | with_reducible exact hs
   | with_reducible exact c4_st6 N1.out N2.out hs
   | exact c4_keep hs bal_)
  (first
   | (go_at_call 82; with_reducible refine (C1.out _ Hc.out).mono ?_; rintro e w2 ⟨D1, d1, rfl, vv1, hc2⟩; (try replace vv2 := vv2.below hc2); (try clear g0 g1 g2 g3 g4 g5 f0 f1 f2 f3 f4 f5); replace hs := c4_keep hs hc2; have zl := HR.out.lt; replace HR := hid (HR.out.below hc2); have Hp := Hc; replace Hc := hid (from_ Hc.out hc2); obtain ⟨g0, g1, g2, g3, g4, g5, f0, f1, f2, f3, f4, f5, _⟩ := id HR.out)
   | (go_at_call 82; with_reducible refine (C2.out _ Hc.out).mono ?_; rintro e w3 ⟨D2, d2, rfl, vv2, hc2⟩; (try replace vv1 := vv1.below hc2); (try clear g0 g1 g2 g3 g4 g5 f0 f1 f2 f3 f4 f5); replace hs := c4_keep hs hc2; have zm := HR.out.lt; replace HR := hid (HR.out.below hc2); have Hq := Hc; replace Hc := hid (from_ Hc.out hc2); have g0 := HR.out.cf)) | fail
 all_goals
  obtain ⟨HP, U1, U2⟩ := hid3 (HR.out.put Hc.out N3.out (.bool false) (.bool s) (.slice D1 l.length d1) (.bool false) (.bool t) (.slice D2 k.length d2)) ((vv1.set6 (g := gR) (fun (h : _ ≤ gR) => by omega) (.bool false) (.bool s) (.slice D1 l.length d1) (.bool false) (.bool t) (.slice D2 k.length d2)).mono (new_le Hp.out.size)) ((vv2.set6 (g := gR) (fun (h : _ ≤ gR) => by omega) (.bool false) (.bool s) (.slice D1 l.length d1) (.bool false) (.bool t) (.slice D2 k.length d2)).mono (new_le Hq.out.size))
  clear vv1 vv2
  go_wp2
  refine bodyPost_ret (res_itv rfl _ gR rfl HP.out.box) rfl ?_
  exact ⟨_, _, _, _, rfl, U1.out, U2.out, HP.out.bel⟩
theorem r16turned_w (h : (n = true ∧ n' = true ∧ s' = s ∧ l' = l) ∨ (n = false ∧ n' = false ∧ ∃ x, Nm x s l ∧ Nm (-x) s' l')) (hl : l.length ≤ 1000) (u : U64s w Z A c l) :
  Calls Tryz.prog 116 #[.agg #[.bool n, .bool s, .slice A l.length c]] w fun e w' => ∃ B d, e = .returned (.agg #[.bool n', .bool s', .slice B l'.length d]) ∧ U64s w' old B d l' ∧ Below w.heap.size w w' := by
 obtain ⟨Y, v, hY⟩ := u.awayJ
 obtain ⟨bA, bR, hB0⟩ := boxQ w (.bool n) (.bool s) (.slice A l.length c) (.bool false) (.bool false) (.slice none 0 0) 27 27
 obtain ⟨HB, HR⟩ := hid2 hB0 bR
 obtain ⟨a0, a1, a2, _, _, _, _⟩ := bA
 rcases h with ⟨rfl, rfl, rfl, rfl⟩ | ⟨rfl, rfl, x, n1, n2⟩
 · obtain ⟨_, bR2, hB2⟩ := boxQ w (.bool true) (.bool s') (.slice A l'.length c) (.bool true) (.bool s') (.slice A l'.length c) 27 27
   obtain ⟨U, HP, HQ⟩ := hid3 ((u.below hB2).mono (le_old _)) bR2 hB2
   obtain ⟨q0, q1, q2, f0, f1, f2, _⟩ := bR
   clear u v hY hB0 hB2 bR2
   go_enter Tryz.func116, Tryz.ntmps116
   go_wp2
   refine bodyPost_ret (res_bound rfl _ (w.heap.size + 1) rfl HP.out.c0 HP.out.c1 HP.out.c2) rfl ?_
   exact ⟨_, _, rfl, U.out, HQ.out⟩
 · have T1 := hid (r5turned_v n1 n2 rfl (by omega) (u.below hB0))
   clear u v hY bR hB0 n1 n2
   go_enter Tryz.func116, Tryz.ntmps116
   go_wp2_with fail
   refine T1.out.mono ?_
   rintro e w2 ⟨A2, c2, rfl, u2, hc⟩
   have H2 := from_ HB.out hc
   have R2 := HR.out.below hc
   have z := HR.out.lt
   have hP := R2.put H2 (by omega) (.bool false) (.bool s') (.slice A2 l'.length c2)
   have hu := hP.keep (fun (h : _ ≤ w.heap.size + 1) => by omega) u2
   obtain ⟨HP, HU⟩ := hid2 hP (hu.mono (le_old _))
   obtain ⟨q0, q1, q2, f0, f1, f2, _⟩ := R2
   clear hP hu u2 hc H2 z a0 a1 a2
   go_wp2
   refine bodyPost_ret (res_bound rfl _ (w.heap.size + 1) rfl HP.out.c0 HP.out.c1 HP.out.c2) rfl ?_
   exact ⟨_, _, rfl, HU.out, HP.out.bel⟩
theorem ends_neg (hx : -bigZ ≤ x ∧ x ≤ bigZ) (h : (n = nHi x ∧ s = sE x ∧ l = lE x ∧ n' = nLo (-x)) ∨ (n = nLo x ∧ s = sE x ∧ l = lE x ∧ n' = nHi (-x) )) (hb : (n = nHi x → x ≠ -bigZ) ∧ (n = nLo x → x ≠ bigZ) ∨ True) (h2 : s' = sE (-x) ∧ l' = lE (-x)) (hk : n = false → -bigZ < x ∧ x < bigZ) (hk2 : n = true → x = bigZ ∨ x = -bigZ) : (n = true ∧ n' = true ∧ s' = s ∧ l' = l) ∨ (n = false ∧ n' = false ∧ ∃ y, Nm y s l ∧ Nm (-y) s' l') := by
 have h0 := bigZ_pos
 obtain ⟨rfl, rfl⟩ := h2
 cases n with
 | false =>
   have hk := hk rfl
   have e1 := nm_e (n := x) hk
   have e2 := nm_e (n := -x) (by omega)
   refine .inr ⟨rfl, ?_, x, ?_, e2⟩
   · rcases h with h | h
     · rw [h.2.2.2]; exact nLo_no (by omega)
     · rw [h.2.2.2]; exact nHi_no (by omega)
   · rcases h with h | h
     · rw [h.2.1, h.2.2.1]; exact e1
     · rw [h.2.1, h.2.2.1]; exact e1
 | true =>
   have hk := hk2 rfl
   have es : sE (-x) = sE x := by unfold sE; rw [decide_eq_false (by omega), decide_eq_false (by omega)]
   have el : lE (-x) = lE x := by unfold lE; rw [if_neg (by omega), if_neg (by omega)]
   refine .inl ⟨rfl, ?_, ?_, ?_⟩
   · rcases h with h | h
     · rw [h.2.2.2]
       have : x = bigZ := of_decide_eq_true (h.1.symm)
       exact decide_eq_true (by omega)
     · rw [h.2.2.2]
       have : x = -bigZ := of_decide_eq_true (h.1.symm)
       exact decide_eq_true (by omega)
   · rcases h with h | h <;> rw [es, h.2.1]
   · rcases h with h | h <;> rw [el, h.2.2.1]
theorem r16other_w {r : Iv} (hp : IvW P p) (gp : IvN 60 P.1 P.2) (hr : IvW (ivNg P) r) (u1 : U64s w Z1 A a p.l0) (u2 : U64s w Z2 B b p.l1) :
  Calls Tryz.prog 76 #[.agg #[.bool p.n0, .bool p.s0, .slice A p.l0.length a, .bool p.n1, .bool p.s1, .slice B p.l1.length b]] w fun e w' => ∃ rA ra rB rb, e = .returned (.agg #[.bool r.n0, .bool r.s0, .slice rA r.l0.length ra, .bool r.n1, .bool r.s1, .slice rB r.l1.length rb]) ∧ U64s w' old rA ra r.l0 ∧ U64s w' old rB rb r.l1 ∧ Below w.heap.size w w' := by
 have kp := hp.k gp (by omega)
 have h0 := bigZ_pos
 have r1 := gp.lo.range (by omega)
 have r2 := gp.hi.range (by omega)
 have n1 := gp.nlo
 have n2 := gp.nhi
 obtain ⟨⟨p0, p1, p2⟩, p3, p4, p5⟩ := hp
 obtain ⟨⟨q0, q1, q2⟩, q3, q4, q5⟩ := hr
 have e1 := ends_neg (x := P.2) (n := p.n1) (s := p.s1) (l := p.l1) (n' := r.n0) (s' := r.s0) (l' := r.l0) r2 (.inl ⟨p3, p4, p5, q0⟩) (.inr trivial) ⟨q1, q2⟩ (fun h => by rw [p3] at h; have := of_decide_eq_false h; omega) (fun h => by rw [p3] at h; exact .inl (of_decide_eq_true h))
 have e2 := ends_neg (x := P.1) (n := p.n0) (s := p.s0) (l := p.l0) (n' := r.n1) (s' := r.s1) (l' := r.l1) r1 (.inr ⟨p0, p1, p2, q3⟩) (.inr trivial) ⟨q4, q5⟩ (fun h => by rw [p0] at h; have := of_decide_eq_false h; omega) (fun h => by rw [p0] at h; exact .inr (of_decide_eq_true h))
 obtain ⟨bA, bR, hB0⟩ := boxT w (.bool p.n0) (.bool p.s0) (.slice A p.l0.length a) (.bool p.n1) (.bool p.s1) (.slice B p.l1.length b) (.bool false) (.bool false) (.slice none 0 0) (.bool false) (.bool false) (.slice none 0 0) 29
 have nR := NoU.new6 (w.alloc (.cells #[.bool p.n0, .bool p.s0, .slice A p.l0.length a, .bool p.n1, .bool p.s1, .slice B p.l1.length b] 29)) false false false false none none 0 0 0 0 29
 rw [World.size_alloc] at nR
 obtain ⟨C1, C2⟩ := hid2 (fun (W : World) (h : Below w.heap.size w W) => r16turned_w e1 (by have := kp.q1; omega) (u2.below h)) (fun (W : World) (h : Below w.heap.size w W) => r16turned_w e2 (by have := kp.q0; omega) (u1.below h))
 have hs := bA.all
 replace hs := box6_keep hs bdr_
 obtain ⟨Hc, HR, HN⟩ := hid3 hB0.drew (bR.below bdr_) (nR.below bR.lt bdr_)
 clear u1 u2 kp r1 r2 n1 n2 p0 p1 p2 p3 p4 p5 q0 q1 q2 q3 q4 q5 e1 e2 bA bR nR hB0 gp
 obtain ⟨gR, hgR⟩ : ∃ gR, gR = w.heap.size + 1 := ⟨_, rfl⟩
 rw [← hgR] at HR HN
 go_enter Tryz.func76, Tryz.ntmps76
 go_upto_region 1 with fail
 simp only [show w.heap.size + 1 = gR from hgR.symm]
 obtain ⟨N1, N3⟩ := hid2 (show gR ≠ w.heap.size by omega) (show w.heap.size ≤ gR by omega)
 clear hgR
 first | go_region_held3 (fun w' => C6 w' w.heap.size (.bool p.n0) (.bool p.s0) (.slice A p.l0.length a) (.bool p.n1) (.bool p.s1) (.slice B p.l1.length b))
  (first
   | with_reducible exact hs
   | with_reducible exact box6_st6 N1.out hs
   | exact box6_keep hs bal_)
  (first
   | (go_at_call 116; with_reducible refine (C1.out _ Hc.out).mono ?_; rintro e w2 ⟨D1, d1, rfl, vv1, hc2⟩; (try replace vv2 := vv2.below hc2); (try clear g0 g1 g2 g3 g4 g5 f0 f1 f2 f3 f4 f5); replace hs := box6_keep hs hc2; replace HN := hid (HN.out.below HR.out.lt hc2); replace HR := hid (HR.out.below hc2); replace Hc := hid (from_ Hc.out hc2); obtain ⟨g0, g1, g2, g3, g4, g5, f0, f1, f2, f3, f4, f5, _⟩ := id HR.out)
   | (go_at_call 116; with_reducible refine (C2.out _ Hc.out).mono ?_; rintro e w3 ⟨D2, d2, rfl, vv2, hc2⟩; (try replace vv1 := vv1.below hc2); (try clear g0 g1 g2 g3 g4 g5 f0 f1 f2 f3 f4 f5); replace hs := box6_keep hs hc2; replace HN := hid (HN.out.below HR.out.lt hc2); replace HR := hid (HR.out.below hc2); replace Hc := hid (from_ Hc.out hc2); have g0 := HR.out.cf)) | fail
 all_goals
  obtain ⟨HP, U1, U2⟩ := hid3 (HR.out.put Hc.out N3.out (.bool r.n0) (.bool r.s0) (.slice D1 r.l0.length d1) (.bool r.n1) (.bool r.s1) (.slice D2 r.l1.length d2)) (vv1.set6n HN.out (.bool r.n0) (.bool r.s0) (.slice D1 r.l0.length d1) (.bool r.n1) (.bool r.s1) (.slice D2 r.l1.length d2)) (vv2.set6n HN.out (.bool r.n0) (.bool r.s0) (.slice D1 r.l0.length d1) (.bool r.n1) (.bool r.s1) (.slice D2 r.l1.length d2))
  clear vv1 vv2
  go_wp2
  refine bodyPost_ret (res_itv rfl _ gR rfl HP.out.box) rfl ?_
  exact ⟨_, _, _, _, rfl, U1.out, U2.out, HP.out.bel⟩
theorem errA2_bad (hb : ¬ (p.ok = true ∧ q.ok = true)) : errA2 (okA p.n0 p.s0 p.l0 p.n1 p.s1 p.l1) (okA q.n0 q.s0 q.l0 q.n1 q.s1 q.l1) = 8 := by
 have h : ¬ (okA p.n0 p.s0 p.l0 p.n1 p.s1 p.l1 = true ∧ okA q.n0 q.s0 q.l0 q.n1 q.s1 q.l1 = true) := hb
 revert h
 cases okA p.n0 p.s0 p.l0 p.n1 p.s1 p.l1 <;> cases okA q.n0 q.s0 q.l0 q.n1 q.s1 q.l1 <;> intro h <;> first | rfl | exact absurd ⟨rfl, rfl⟩ h
theorem r05of_p {n : Int} (h : Nm n s l) (hn : -9223372036854775808 ≤ n ∧ n ≤ 9223372036854775807) :
  Calls Tryz.prog 49 #[.int .i64 n] w fun e w' => ∃ A c, e = .returned (.agg #[.bool s, .slice A l.length c]) ∧ U64s w' (new w.heap.size) A c l ∧ Below w.heap.size w w' := by
 refine (r05of_any hn).mono ?_
 rintro e w' ⟨v, rfl, hv, hb⟩
 obtain ⟨A, c, rfl, hu⟩ := h.of hv
 exact ⟨A, c, rfl, hu, hb⟩
def zeroJ : Iv := ⟨false, false, [], false, false, []⟩
theorem noI {f : FuncId} {args : Array Value} {E : Int} (h : Calls Tryz.prog f args w fun e w' => e = .returned (.tuple #[.agg #[.bool false, .bool false, .slice none 0 0, .bool false, .bool false, .slice none 0 0], .int .i64 E]) ∧ Below w.heap.size w w') : Calls Tryz.prog f args w fun e w' => ∃ rA ra rB rb, e = .returned (.tuple #[.agg #[.bool zeroJ.n0, .bool zeroJ.s0, .slice rA zeroJ.l0.length ra, .bool zeroJ.n1, .bool zeroJ.s1, .slice rB zeroJ.l1.length rb], .int .i64 E]) ∧ U64s w' Z rA ra zeroJ.l0 ∧ U64s w' Z rB rb zeroJ.l1 ∧ Below w.heap.size w w' := by
 refine h.mono ?_
 rintro e w' ⟨rfl, hb⟩
 exact ⟨none, 0, none, 0, rfl, U64s.nil _ _, U64s.nil _ _, hb⟩
def Q3n (W : World) (B : Nat) (a0 a1 a2 a3 a4 a5 b0 b1 b2 b3 b4 b5 c0 c1 : Value) : Prop := Box6 W B a0 a1 a2 a3 a4 a5 ∧ Box6 W (B + 1) b0 b1 b2 b3 b4 b5 ∧ Box W (B + 2) c0 c1
theorem Q3n.new (w : World) (a0 a1 a2 a3 a4 a5 b0 b1 b2 b3 b4 b5 c0 c1 : Value) (t u : TypeId) : Q3n (((w.alloc (.cells #[a0, a1, a2, a3, a4, a5] t)).alloc (.cells #[b0, b1, b2, b3, b4, b5] t)).alloc (.cells #[c0, c1] u)) w.heap.size a0 a1 a2 a3 a4 a5 b0 b1 b2 b3 b4 b5 c0 c1 ∧ Below w.heap.size w (((w.alloc (.cells #[a0, a1, a2, a3, a4, a5] t)).alloc (.cells #[b0, b1, b2, b3, b4, b5] t)).alloc (.cells #[c0, c1] u)) := by
 have k1 : Below w.heap.size w (w.alloc (.cells #[a0, a1, a2, a3, a4, a5] t)) := (Below.refl _ _).alloc (Nat.le_refl _) _
 have k2 : Below w.heap.size w ((w.alloc (.cells #[a0, a1, a2, a3, a4, a5] t)).alloc (.cells #[b0, b1, b2, b3, b4, b5] t)) := k1.alloc k1.size _
 have b0' := ((Box6.new w a0 a1 a2 a3 a4 a5 t).alloc (.cells #[b0, b1, b2, b3, b4, b5] t)).alloc (.cells #[c0, c1] u)
 have b1' := (Box6.new (w.alloc (.cells #[a0, a1, a2, a3, a4, a5] t)) b0 b1 b2 b3 b4 b5 t).alloc (.cells #[c0, c1] u)
 simp only [World.size_alloc] at b1'
 have b2' := Box.new ((w.alloc (.cells #[a0, a1, a2, a3, a4, a5] t)).alloc (.cells #[b0, b1, b2, b3, b4, b5] t)) c0 c1 u
 simp only [World.size_alloc] at b2'
 exact ⟨⟨b0', b1', b2'⟩, k2.alloc k2.size _⟩
theorem Q3n.below {B : Nat} {c0 c1 : Value} (h : Q3n W B a0 a1 a2 a3 a4 a5 b0 b1 b2 b3 b4 b5 c0 c1) (hb : Below W.heap.size W V) : Q3n V B a0 a1 a2 a3 a4 a5 b0 b1 b2 b3 b4 b5 c0 c1 := ⟨h.1.below hb, h.2.1.below hb, h.2.2.below hb⟩
theorem r16sum_w {k : List Nat} (h : ((n = true ∨ m = true) ∧ r = true ∧ rs = false ∧ rl = []) ∨ (n = false ∧ m = false ∧ r = false ∧ ∃ x y, Nm x s l ∧ Nm y t k ∧ Nm (x + y) rs rl)) (hl : l.length ≤ 1000) (hk : k.length ≤ 1000) (u : U64s w Z1 A c l) (v : U64s w Z2 B d k) :
  Calls Tryz.prog 70 #[.agg #[.bool n, .bool s, .slice A l.length c], .agg #[.bool m, .bool t, .slice B k.length d]] w fun e w' => ∃ E e', e = .returned (.agg #[.bool r, .bool rs, .slice E rl.length e']) ∧ U64s w' (new w.heap.size) E e' rl ∧ Below w.heap.size w w' := by
 rcases h with ⟨hn, rfl, rfl, rfl⟩ | ⟨rfl, rfl, rfl, x, y, n1, n2, n3⟩
 · obtain ⟨bA, bB, bR, hB0⟩ := boxS w (.bool n) (.bool s) (.slice A l.length c) (.bool m) (.bool t) (.slice B k.length d) (.bool true) (.bool false) (.slice none 0 0) 27
   obtain ⟨bA', bB', bR', _⟩ := boxS w (.bool n) (.bool s) (.slice A l.length c) (.bool m) (.bool t) (.slice B k.length d) (.bool false) (.bool false) (.slice none 0 0) 27
   obtain ⟨HP, HB⟩ := hid2 bR hB0
   obtain ⟨a0, a1, a2, _, _, _, _⟩ := bA'
   obtain ⟨b0, b1, b2, _, _, _, _⟩ := bB'
   obtain ⟨q0, q1, q2, f0, f1, f2, _⟩ := bR'
   clear u v hl hk bA bB bR hB0
   rcases hn with rfl | rfl
   · go_enter Tryz.func70, Tryz.ntmps70
     go_wp2
     refine bodyPost_ret (res_bound rfl _ (w.heap.size + 2) rfl HP.out.c0 HP.out.c1 HP.out.c2) rfl ?_
     exact ⟨none, 0, rfl, U64s.nil _ _, HB.out⟩
   · cases n
     · go_enter Tryz.func70, Tryz.ntmps70
       go_wp2
       refine bodyPost_ret (res_bound rfl _ (w.heap.size + 2) rfl HP.out.c0 HP.out.c1 HP.out.c2) rfl ?_
       exact ⟨none, 0, rfl, U64s.nil _ _, HB.out⟩
     · go_enter Tryz.func70, Tryz.ntmps70
       go_wp2
       refine bodyPost_ret (res_bound rfl _ (w.heap.size + 2) rfl HP.out.c0 HP.out.c1 HP.out.c2) rfl ?_
       exact ⟨none, 0, rfl, U64s.nil _ _, HB.out⟩
 · obtain ⟨bA, bB, bR, hB0⟩ := boxS w (.bool false) (.bool s) (.slice A l.length c) (.bool false) (.bool t) (.slice B k.length d) (.bool false) (.bool false) (.slice none 0 0) 27
   obtain ⟨T1, HR, HB⟩ := hid3 (r5sum_n n1 n2 n3 rfl (by omega) (by omega) (u.below hB0) (v.below hB0)) bR hB0
   obtain ⟨a0, a1, a2, _, _, _, _⟩ := bA
   obtain ⟨b0, b1, b2, _, _, _, _⟩ := bB
   clear u v n1 n2 n3 hl hk bR hB0
   go_enter Tryz.func70, Tryz.ntmps70
   go_wp2_with fail
   refine T1.out.mono ?_
   rintro e w2 ⟨A2, c2, rfl, u2, hc⟩
   have hs := HB.out.size
   have H2 := from_ HB.out hc
   have R2 := HR.out.below hc
   have z := HR.out.lt
   have hP := R2.put H2 (show w.heap.size ≤ w.heap.size + 2 by omega) (.bool false) (.bool rs) (.slice A2 rl.length c2)
   have hu := hP.keep (fun (h : _ ≤ w.heap.size + 2) => by omega) u2
   obtain ⟨HP, HU⟩ := hid2 hP (hu.mono (new_le hs))
   obtain ⟨q0, q1, q2, f0, f1, f2, _⟩ := R2
   clear hP hu u2 hc H2 z hs a0 a1 a2 b0 b1 b2
   go_wp2
   refine bodyPost_ret (res_bound rfl _ (w.heap.size + 2) rfl HP.out.c0 HP.out.c1 HP.out.c2) rfl ?_
   exact ⟨_, _, rfl, HU.out, HP.out.bel⟩
theorem r16product_w {k : List Nat} (h : ((n = true ∨ m = true) ∧ r = true ∧ rs = false ∧ rl = []) ∨ (n = false ∧ m = false ∧ r = false ∧ ∃ x y, Nm x s l ∧ Nm y t k ∧ Nm (x * y) rs rl)) (hl : l.length ≤ 1000) (hk : k.length ≤ 1000) (u : U64s w Z1 A c l) (v : U64s w Z2 B d k) :
  Calls Tryz.prog 77 #[.agg #[.bool n, .bool s, .slice A l.length c], .agg #[.bool m, .bool t, .slice B k.length d]] w fun e w' => ∃ E e', e = .returned (.agg #[.bool r, .bool rs, .slice E rl.length e']) ∧ U64s w' (new w.heap.size) E e' rl ∧ Below w.heap.size w w' := by
 rcases h with ⟨hn, rfl, rfl, rfl⟩ | ⟨rfl, rfl, rfl, x, y, n1, n2, n3⟩
 · obtain ⟨bA, bB, bR, hB0⟩ := boxS w (.bool n) (.bool s) (.slice A l.length c) (.bool m) (.bool t) (.slice B k.length d) (.bool true) (.bool false) (.slice none 0 0) 27
   obtain ⟨bA', bB', bR', _⟩ := boxS w (.bool n) (.bool s) (.slice A l.length c) (.bool m) (.bool t) (.slice B k.length d) (.bool false) (.bool false) (.slice none 0 0) 27
   obtain ⟨HP, HB⟩ := hid2 bR hB0
   obtain ⟨a0, a1, a2, _, _, _, _⟩ := bA'
   obtain ⟨b0, b1, b2, _, _, _, _⟩ := bB'
   obtain ⟨q0, q1, q2, f0, f1, f2, _⟩ := bR'
   clear u v hl hk bA bB bR hB0
   rcases hn with rfl | rfl
   · go_enter Tryz.func77, Tryz.ntmps77
     go_wp2
     refine bodyPost_ret (res_bound rfl _ (w.heap.size + 2) rfl HP.out.c0 HP.out.c1 HP.out.c2) rfl ?_
     exact ⟨none, 0, rfl, U64s.nil _ _, HB.out⟩
   · cases n
     · go_enter Tryz.func77, Tryz.ntmps77
       go_wp2
       refine bodyPost_ret (res_bound rfl _ (w.heap.size + 2) rfl HP.out.c0 HP.out.c1 HP.out.c2) rfl ?_
       exact ⟨none, 0, rfl, U64s.nil _ _, HB.out⟩
     · go_enter Tryz.func77, Tryz.ntmps77
       go_wp2
       refine bodyPost_ret (res_bound rfl _ (w.heap.size + 2) rfl HP.out.c0 HP.out.c1 HP.out.c2) rfl ?_
       exact ⟨none, 0, rfl, U64s.nil _ _, HB.out⟩
 · obtain ⟨bA, bB, bR, hB0⟩ := boxS w (.bool false) (.bool s) (.slice A l.length c) (.bool false) (.bool t) (.slice B k.length d) (.bool false) (.bool false) (.slice none 0 0) 27
   obtain ⟨T1, HR, HB⟩ := hid3 (r5times_n n1 n2 n3 rfl (by omega) (by omega) (u.below hB0) (v.below hB0)) bR hB0
   obtain ⟨a0, a1, a2, _, _, _, _⟩ := bA
   obtain ⟨b0, b1, b2, _, _, _, _⟩ := bB
   clear u v n1 n2 n3 hl hk bR hB0
   go_enter Tryz.func77, Tryz.ntmps77
   go_wp2_with fail
   refine T1.out.mono ?_
   rintro e w2 ⟨A2, c2, rfl, u2, hc⟩
   have hs := HB.out.size
   have H2 := from_ HB.out hc
   have R2 := HR.out.below hc
   have z := HR.out.lt
   have hP := R2.put H2 (show w.heap.size ≤ w.heap.size + 2 by omega) (.bool false) (.bool rs) (.slice A2 rl.length c2)
   have hu := hP.keep (fun (h : _ ≤ w.heap.size + 2) => by omega) u2
   obtain ⟨HP, HU⟩ := hid2 hP (hu.mono (new_le hs))
   obtain ⟨q0, q1, q2, f0, f1, f2, _⟩ := R2
   clear hP hu u2 hc H2 z hs a0 a1 a2 b0 b1 b2
   go_wp2
   refine bodyPost_ret (res_bound rfl _ (w.heap.size + 2) rfl HP.out.c0 HP.out.c1 HP.out.c2) rfl ?_
   exact ⟨_, _, rfl, HU.out, HP.out.bel⟩
theorem d12_keep (hs : (C6 W g a0 a1 a2 a3 a4 a5) ∧ C6 W h b0 b1 b2 b3 b4 b5) (hb : Below W.heap.size W V) : (C6 V g a0 a1 a2 a3 a4 a5) ∧ C6 V h b0 b1 b2 b3 b4 b5 := ⟨box6_keep hs.1 hb, box6_keep hs.2 hb⟩
theorem d12_st6 {r : Nat} (hg : r ≠ g) (hh : r ≠ h) (hs : (C6 W g a0 a1 a2 a3 a4 a5) ∧ C6 W h b0 b1 b2 b3 b4 b5) : (((((((W.setCell ⟨r, 0, none⟩ x0).setCell ⟨r, 1, none⟩ x1).setCell ⟨r, 2, none⟩ x2).setCell ⟨r, 3, none⟩ x3).setCell ⟨r, 4, none⟩ x4).setCell ⟨r, 5, none⟩ x5).cell? ⟨g, 0, none⟩ = some a0 ∧ ((((((W.setCell ⟨r, 0, none⟩ x0).setCell ⟨r, 1, none⟩ x1).setCell ⟨r, 2, none⟩ x2).setCell ⟨r, 3, none⟩ x3).setCell ⟨r, 4, none⟩ x4).setCell ⟨r, 5, none⟩ x5).cell? ⟨g, 1, none⟩ = some a1 ∧ ((((((W.setCell ⟨r, 0, none⟩ x0).setCell ⟨r, 1, none⟩ x1).setCell ⟨r, 2, none⟩ x2).setCell ⟨r, 3, none⟩ x3).setCell ⟨r, 4, none⟩ x4).setCell ⟨r, 5, none⟩ x5).cell? ⟨g, 2, none⟩ = some a2 ∧ ((((((W.setCell ⟨r, 0, none⟩ x0).setCell ⟨r, 1, none⟩ x1).setCell ⟨r, 2, none⟩ x2).setCell ⟨r, 3, none⟩ x3).setCell ⟨r, 4, none⟩ x4).setCell ⟨r, 5, none⟩ x5).cell? ⟨g, 3, none⟩ = some a3 ∧ ((((((W.setCell ⟨r, 0, none⟩ x0).setCell ⟨r, 1, none⟩ x1).setCell ⟨r, 2, none⟩ x2).setCell ⟨r, 3, none⟩ x3).setCell ⟨r, 4, none⟩ x4).setCell ⟨r, 5, none⟩ x5).cell? ⟨g, 4, none⟩ = some a4 ∧ ((((((W.setCell ⟨r, 0, none⟩ x0).setCell ⟨r, 1, none⟩ x1).setCell ⟨r, 2, none⟩ x2).setCell ⟨r, 3, none⟩ x3).setCell ⟨r, 4, none⟩ x4).setCell ⟨r, 5, none⟩ x5).cell? ⟨g, 5, none⟩ = some a5) ∧ ((((((W.setCell ⟨r, 0, none⟩ x0).setCell ⟨r, 1, none⟩ x1).setCell ⟨r, 2, none⟩ x2).setCell ⟨r, 3, none⟩ x3).setCell ⟨r, 4, none⟩ x4).setCell ⟨r, 5, none⟩ x5).cell? ⟨h, 0, none⟩ = some b0 ∧ ((((((W.setCell ⟨r, 0, none⟩ x0).setCell ⟨r, 1, none⟩ x1).setCell ⟨r, 2, none⟩ x2).setCell ⟨r, 3, none⟩ x3).setCell ⟨r, 4, none⟩ x4).setCell ⟨r, 5, none⟩ x5).cell? ⟨h, 1, none⟩ = some b1 ∧ ((((((W.setCell ⟨r, 0, none⟩ x0).setCell ⟨r, 1, none⟩ x1).setCell ⟨r, 2, none⟩ x2).setCell ⟨r, 3, none⟩ x3).setCell ⟨r, 4, none⟩ x4).setCell ⟨r, 5, none⟩ x5).cell? ⟨h, 2, none⟩ = some b2 ∧ ((((((W.setCell ⟨r, 0, none⟩ x0).setCell ⟨r, 1, none⟩ x1).setCell ⟨r, 2, none⟩ x2).setCell ⟨r, 3, none⟩ x3).setCell ⟨r, 4, none⟩ x4).setCell ⟨r, 5, none⟩ x5).cell? ⟨h, 3, none⟩ = some b3 ∧ ((((((W.setCell ⟨r, 0, none⟩ x0).setCell ⟨r, 1, none⟩ x1).setCell ⟨r, 2, none⟩ x2).setCell ⟨r, 3, none⟩ x3).setCell ⟨r, 4, none⟩ x4).setCell ⟨r, 5, none⟩ x5).cell? ⟨h, 4, none⟩ = some b4 ∧ ((((((W.setCell ⟨r, 0, none⟩ x0).setCell ⟨r, 1, none⟩ x1).setCell ⟨r, 2, none⟩ x2).setCell ⟨r, 3, none⟩ x3).setCell ⟨r, 4, none⟩ x4).setCell ⟨r, 5, none⟩ x5).cell? ⟨h, 5, none⟩ = some b5 := ⟨box6_st6 hg hs.1, box6_st6 hh hs.2⟩
theorem sum_lo {k : List Nat} (hx : Ext bigZ (wN N) x) (hy : Ext bigZ (wN N) y) (hN : N ≤ 59) (hb : x < bigZ ∧ y < bigZ) (e1 : EndL x n s l) (e2 : EndL y m t k) (e3 : EndL (plusE bigZ x y) r rs rl) : ((n = true ∨ m = true) ∧ r = true ∧ rs = false ∧ rl = []) ∨ (n = false ∧ m = false ∧ r = false ∧ ∃ a b, Nm a s l ∧ Nm b t k ∧ Nm (a + b) rs rl) := by
 have h0 := bigZ_pos
 have h4 := wN_le (show N + 1 ≤ 64 by omega)
 have h5 := wN_two N
 obtain ⟨rfl, rfl, rfl⟩ := e1
 obtain ⟨rfl, rfl, rfl⟩ := e2
 obtain ⟨rfl, rfl, rfl⟩ := e3
 unfold Ext at hx hy
 by_cases h : x = -bigZ ∨ y = -bigZ
 · have e : plusE bigZ x y = -bigZ := by unfold plusE; rw [if_pos h]
   rw [e]
   refine .inl ⟨?_, decide_eq_true rfl, decide_eq_false (by omega), if_neg (by omega)⟩
   rcases h with h | h
   · exact .inl (decide_eq_true h)
   · exact .inr (decide_eq_true h)
 · have e : plusE bigZ x y = x + y := by unfold plusE; rw [if_neg (by omega), if_neg (by omega)]
   rw [e]
   exact .inr ⟨decide_eq_false (by omega), decide_eq_false (by omega), decide_eq_false (by omega), x, y, nm_e (by omega), nm_e (by omega), nm_e (by omega)⟩
theorem sum_hi {k : List Nat} (hx : Ext bigZ (wN N) x) (hy : Ext bigZ (wN N) y) (hN : N ≤ 59) (hb : -bigZ < x ∧ -bigZ < y) (e1 : EndH x n s l) (e2 : EndH y m t k) (e3 : EndH (plusE bigZ x y) r rs rl) : ((n = true ∨ m = true) ∧ r = true ∧ rs = false ∧ rl = []) ∨ (n = false ∧ m = false ∧ r = false ∧ ∃ a b, Nm a s l ∧ Nm b t k ∧ Nm (a + b) rs rl) := by
 have h0 := bigZ_pos
 have h4 := wN_le (show N + 1 ≤ 64 by omega)
 have h5 := wN_two N
 obtain ⟨rfl, rfl, rfl⟩ := e1
 obtain ⟨rfl, rfl, rfl⟩ := e2
 obtain ⟨rfl, rfl, rfl⟩ := e3
 unfold Ext at hx hy
 by_cases h : x = bigZ ∨ y = bigZ
 · have e : plusE bigZ x y = bigZ := by unfold plusE; rw [if_neg (by omega), if_pos h]
   rw [e]
   refine .inl ⟨?_, decide_eq_true rfl, decide_eq_false (by omega), if_neg (by omega)⟩
   rcases h with h | h
   · exact .inl (decide_eq_true h)
   · exact .inr (decide_eq_true h)
 · have e : plusE bigZ x y = x + y := by unfold plusE; rw [if_neg (by omega), if_neg (by omega)]
   rw [e]
   exact .inr ⟨decide_eq_false (by omega), decide_eq_false (by omega), decide_eq_false (by omega), x, y, nm_e (by omega), nm_e (by omega), nm_e (by omega)⟩
theorem r16plus_w {r : Iv} (hp : IvW P p) (gp : IvN N P.1 P.2) (hq : IvW Q q) (gq : IvN N Q.1 Q.2) (hN : N ≤ 59) (hr : IvW (ivA P Q) r) (u1 : U64s w Z1 A a p.l0) (u2 : U64s w Z2 B b p.l1) (u3 : U64s w Z3 C c q.l0) (u4 : U64s w Z4 D d q.l1) :
  Calls Tryz.prog 31 #[.agg #[.bool p.n0, .bool p.s0, .slice A p.l0.length a, .bool p.n1, .bool p.s1, .slice B p.l1.length b], .agg #[.bool q.n0, .bool q.s0, .slice C q.l0.length c, .bool q.n1, .bool q.s1, .slice D q.l1.length d]] w fun e w' => ∃ rA ra rB rb, e = .returned (.agg #[.bool r.n0, .bool r.s0, .slice rA r.l0.length ra, .bool r.n1, .bool r.s1, .slice rB r.l1.length rb]) ∧ U64s w' (new w.heap.size) rA ra r.l0 ∧ U64s w' (new w.heap.size) rB rb r.l1 ∧ Below w.heap.size w w' := by
 have kp := hp.k gp (by omega)
 have kq := hq.k gq (by omega)
 have e1 := sum_lo gp.lo gq.lo hN ⟨gp.nlo, gq.nlo⟩ hp.1 hq.1 hr.1
 have e2 := sum_hi gp.hi gq.hi hN ⟨gp.nhi, gq.nhi⟩ hp.2 hq.2 hr.2
 obtain ⟨bA, bB, bR, hB0⟩ := boxX w (.bool p.n0) (.bool p.s0) (.slice A p.l0.length a) (.bool p.n1) (.bool p.s1) (.slice B p.l1.length b) (.bool q.n0) (.bool q.s0) (.slice C q.l0.length c) (.bool q.n1) (.bool q.s1) (.slice D q.l1.length d) (.bool false) (.bool false) (.slice none 0 0) (.bool false) (.bool false) (.slice none 0 0) 29
 obtain ⟨C1, C2⟩ := hid2 (fun (W : World) (h : Below w.heap.size w W) => r16sum_w e1 (by have := kp.q0; omega) (by have := kq.q0; omega) (u1.below h) (u3.below h)) (fun (W : World) (h : Below w.heap.size w W) => r16sum_w e2 (by have := kp.q1; omega) (by have := kq.q1; omega) (u2.below h) (u4.below h))
 have hs := And.intro bA.all bB.all
 replace hs := d12_keep hs bdr_
 obtain ⟨Hc, HR⟩ := hid2 hB0.drew (bR.below bdr_)
 clear u1 u2 u3 u4 kp kq hp hq hr gp gq e1 e2 bA bB bR hB0
 obtain ⟨gR, hgR⟩ : ∃ gR, gR = w.heap.size + 2 := ⟨_, rfl⟩
 rw [← hgR] at HR
 go_enter Tryz.func31, Tryz.ntmps31
 go_upto_region 1 with fail
 (try simp only [show w.heap.size + 1 + 1 = w.heap.size + 2 from rfl])
 simp only [show w.heap.size + 2 = gR from hgR.symm]
 obtain ⟨N1, N2, N3⟩ := hid3 (show gR ≠ w.heap.size by omega) (show gR ≠ w.heap.size + 1 by omega) (show w.heap.size ≤ gR by omega)
 clear hgR
 first | go_region_held3 (fun w' => (C6 w' w.heap.size (.bool p.n0) (.bool p.s0) (.slice A p.l0.length a) (.bool p.n1) (.bool p.s1) (.slice B p.l1.length b)) ∧ C6 w' (w.heap.size + 1) (.bool q.n0) (.bool q.s0) (.slice C q.l0.length c) (.bool q.n1) (.bool q.s1) (.slice D q.l1.length d))
  (first
   | with_reducible exact hs
   | with_reducible exact d12_st6 N1.out N2.out hs
   | exact d12_keep hs bal_)
  (first
   | (go_at_call 70; with_reducible refine (C1.out _ Hc.out).mono ?_; rintro e w2 ⟨D1, d1, rfl, vv1, hc2⟩; (try replace vv2 := vv2.below hc2); (try clear g0 g1 g2 g3 g4 g5 f0 f1 f2 f3 f4 f5); replace hs := d12_keep hs hc2; have zl := HR.out.lt; replace HR := hid (HR.out.below hc2); have Hp := Hc; replace Hc := hid (from_ Hc.out hc2); obtain ⟨g0, g1, g2, g3, g4, g5, f0, f1, f2, f3, f4, f5, _⟩ := id HR.out)
   | (go_at_call 70; with_reducible refine (C2.out _ Hc.out).mono ?_; rintro e w3 ⟨D2, d2, rfl, vv2, hc2⟩; (try replace vv1 := vv1.below hc2); (try clear g0 g1 g2 g3 g4 g5 f0 f1 f2 f3 f4 f5); replace hs := d12_keep hs hc2; have zm := HR.out.lt; replace HR := hid (HR.out.below hc2); have Hq := Hc; replace Hc := hid (from_ Hc.out hc2); have g0 := HR.out.cf)) | fail
 all_goals
  obtain ⟨HP, U1, U2⟩ := hid3 (HR.out.put Hc.out N3.out (.bool r.n0) (.bool r.s0) (.slice D1 r.l0.length d1) (.bool r.n1) (.bool r.s1) (.slice D2 r.l1.length d2)) ((vv1.set6 (g := gR) (fun (h : _ ≤ gR) => by omega) (.bool r.n0) (.bool r.s0) (.slice D1 r.l0.length d1) (.bool r.n1) (.bool r.s1) (.slice D2 r.l1.length d2)).mono (new_le Hp.out.size)) ((vv2.set6 (g := gR) (fun (h : _ ≤ gR) => by omega) (.bool r.n0) (.bool r.s0) (.slice D1 r.l0.length d1) (.bool r.n1) (.bool r.s1) (.slice D2 r.l1.length d2)).mono (new_le Hq.out.size))
  clear vv1 vv2
  go_wp2
  refine bodyPost_ret (res_itv rfl _ gR rfl HP.out.box) rfl ?_
  exact ⟨_, _, _, _, rfl, U1.out, U2.out, HP.out.bel⟩
theorem r16add_good (u1 : U64s w Z1 A a p.l0) (u2 : U64s w Z2 B b p.l1) (u3 : U64s w Z3 C c q.l0) (u4 : U64s w Z4 D d q.l1) (q1 : p.l0.length ≤ 60) (q2 : p.l1.length ≤ 60) (q3 : q.l0.length ≤ 60) (q4 : q.l1.length ≤ 60) {r : Iv} (h1 : p.ok = true) (h2 : q.ok = true) (hp : IvW P p) (gp : IvN N P.1 P.2) (hq : IvW Q q) (gq : IvN N Q.1 Q.2) (hN : N ≤ 59) (hr : IvW (ivA P Q) r) :
  Calls Tryz.prog 7 #[.agg #[.bool p.n0, .bool p.s0, .slice A p.l0.length a, .bool p.n1, .bool p.s1, .slice B p.l1.length b], .agg #[.bool q.n0, .bool q.s0, .slice C q.l0.length c, .bool q.n1, .bool q.s1, .slice D q.l1.length d]] w fun e w' => ∃ rA ra rB rb, e = .returned (.tuple #[.agg #[.bool r.n0, .bool r.s0, .slice rA r.l0.length ra, .bool r.n1, .bool r.s1, .slice rB r.l1.length rb], .int .i64 0]) ∧ U64s w' old rA ra r.l0 ∧ U64s w' old rB rb r.l1 ∧ Below w.heap.size w w' := by
 obtain ⟨bA, bB, bR, hB0⟩ := boxX w (.bool p.n0) (.bool p.s0) (.slice A p.l0.length a) (.bool p.n1) (.bool p.s1) (.slice B p.l1.length b) (.bool q.n0) (.bool q.s0) (.slice C q.l0.length c) (.bool q.n1) (.bool q.s1) (.slice D q.l1.length d) (.bool false) (.bool false) (.slice none 0 0) (.bool false) (.bool false) (.slice none 0 0) 29
 have nR := NoU.new6 ((w.alloc (.cells #[.bool p.n0, .bool p.s0, .slice A p.l0.length a, .bool p.n1, .bool p.s1, .slice B p.l1.length b] 29)).alloc (.cells #[.bool q.n0, .bool q.s0, .slice C q.l0.length c, .bool q.n1, .bool q.s1, .slice D q.l1.length d] 29)) false false false false none none 0 0 0 0 29
 rw [World.size_alloc, World.size_alloc] at nR
 obtain ⟨TW, EI, HA, HBb, HR, HN⟩ := hid6 (fun (W : World) (h : Below w.heap.size w W) => r16two_any (w := W) (n0 := p.n0) (s0 := p.s0) (n1 := p.n1) (s1 := p.s1) (m0 := q.n0) (t0 := q.s0) (m1 := q.n1) (t1 := q.s1) (u1.below h) (u2.below h) (u3.below h) (u4.below h) q1 q2 q3 q4 h1 h2) (fun (W : World) (h : Below w.heap.size w W) => r16plus_w hp gp hq gq hN hr (u1.below h) (u2.below h) (u3.below h) (u4.below h)) bA bB bR (show NoU _ (w.heap.size + 2) from nR)
 have HB := hid hB0
 obtain ⟨a0, a1, a2, a3, a4, a5, _, _, _, _, _, _, _⟩ := bA
 obtain ⟨b0, b1, b2, b3, b4, b5, _, _, _, _, _, _, _⟩ := bB
 rw [show errA2 true true = 0 by decide] at TW
 clear u1 u2 u3 u4 q1 q2 q3 q4 nR bR hB0 h1 h2 hp gp hq gq hr
 go_enter Tryz.func7, Tryz.ntmps7
 go_wp2_with fail
 refine (TW.out _ HB.out).mono ?_
 rintro e w1 ⟨rfl, hc⟩
 clear a0 a1 a2 a3 a4 a5 b0 b1 b2 b3 b4 b5 TW
 replace HN := hid (HN.out.below HR.out.lt hc)
 replace HA := hid (HA.out.below hc)
 replace HBb := hid (HBb.out.below hc)
 replace HR := hid (HR.out.below hc)
 replace HB := hid (from_ HB.out hc)
 clear hc
 have a0 := HA.out.all
 have b0 := HBb.out.all
 go_wp2_with fail
 refine (EI.out _ HB.out).mono ?_
 rintro e w2 ⟨D1, d1, D2, d2, rfl, v1, v2, hc⟩
 replace HN := hid (HN.out.below HR.out.lt hc)
 replace HA := hid (HA.out.below hc)
 replace HBb := hid (HBb.out.below hc)
 replace HR := hid (HR.out.below hc)
 replace HB := hid (from_ HB.out hc)
 clear hc a0 b0
 obtain ⟨HP, U1, U2⟩ := hid3 (HR.out.put HB.out (show w.heap.size ≤ w.heap.size + 2 by omega) (.bool r.n0) (.bool r.s0) (.slice D1 r.l0.length d1) (.bool r.n1) (.bool r.s1) (.slice D2 r.l1.length d2)) (v1.set6n HN.out (.bool r.n0) (.bool r.s0) (.slice D1 r.l0.length d1) (.bool r.n1) (.bool r.s1) (.slice D2 r.l1.length d2)) (v2.set6n HN.out (.bool r.n0) (.bool r.s0) (.slice D1 r.l0.length d1) (.bool r.n1) (.bool r.s1) (.slice D2 r.l1.length d2))
 have g0 := HR.out.cf
 clear v1 v2
 go_wp2
 refine bodyPost_ret (res_itv2 rfl _ (w.heap.size + 2) rfl HP.out.box) rfl ?_
 exact ⟨_, _, _, _, rfl, U1.out, U2.out, HP.out.bel⟩
theorem box323 (w : World) (a0 a1 a2 b0 b1 r0 r1 r2 : Value) (t u : TypeId) :
  Box3 (((w.alloc (.cells #[a0, a1, a2] t)).alloc (.cells #[b0, b1] u)).alloc (.cells #[r0, r1, r2] t)) w.heap.size a0 a1 a2 ∧
  Box (((w.alloc (.cells #[a0, a1, a2] t)).alloc (.cells #[b0, b1] u)).alloc (.cells #[r0, r1, r2] t)) (w.heap.size + 1) b0 b1 ∧
  Box3 (((w.alloc (.cells #[a0, a1, a2] t)).alloc (.cells #[b0, b1] u)).alloc (.cells #[r0, r1, r2] t)) (w.heap.size + 2) r0 r1 r2 ∧
  Below w.heap.size w (((w.alloc (.cells #[a0, a1, a2] t)).alloc (.cells #[b0, b1] u)).alloc (.cells #[r0, r1, r2] t)) := by
 have h1 := ((Box3.new w a0 a1 a2 t).alloc (.cells #[b0, b1] u)).alloc (.cells #[r0, r1, r2] t)
 have h2 := (Box.new (w.alloc (.cells #[a0, a1, a2] t)) b0 b1 u).alloc (.cells #[r0, r1, r2] t)
 have h3 := Box3.new ((w.alloc (.cells #[a0, a1, a2] t)).alloc (.cells #[b0, b1] u)) r0 r1 r2 t
 simp only [World.size_alloc] at h2 h3
 exact ⟨h1, h2, h3, (((Below.refl _ w).alloc (Nat.le_refl _) _).alloc (by simp) _).alloc (by simp; omega) _⟩
theorem r16up_w {k : List Nat} (h : (n = true ∧ r = true ∧ rs = s ∧ rl = l) ∨ (n = false ∧ r = false ∧ ∃ x y, Nm x s l ∧ Nm y t k ∧ Nm (x * y) rs rl)) (hl : l.length ≤ 1000) (hk : k.length ≤ 1000) (u : U64s w Z1 A c l) (v : U64s w Z2 B d k) :
  Calls Tryz.prog 52 #[.agg #[.bool n, .bool s, .slice A l.length c], .agg #[.bool t, .slice B k.length d]] w fun e w' => ∃ E e', e = .returned (.agg #[.bool r, .bool rs, .slice E rl.length e']) ∧ U64s w' old E e' rl ∧ Below w.heap.size w w' := by
 rcases h with ⟨rfl, rfl, rfl, rfl⟩ | ⟨rfl, rfl, x, y, n1, n2, n3⟩
 · obtain ⟨_, _, bR, hB0⟩ := box323 w (.bool true) (.bool rs) (.slice A rl.length c) (.bool t) (.slice B k.length d) (.bool true) (.bool rs) (.slice A rl.length c) 27 25
   obtain ⟨bA, bB, bQ, _⟩ := box323 w (.bool true) (.bool rs) (.slice A rl.length c) (.bool t) (.slice B k.length d) (.bool false) (.bool false) (.slice none 0 0) 27 25
   obtain ⟨HP, HB, HU⟩ := hid3 bR hB0 ((u.below hB0).mono (le_old _))
   obtain ⟨a0, a1, a2, _, _, _, _⟩ := bA
   obtain ⟨q0, q1, q2, f0, f1, f2, _⟩ := bQ
   clear u v hl hk bB bR hB0
   go_enter Tryz.func52, Tryz.ntmps52
   go_wp2
   refine bodyPost_ret (res_bound rfl _ (w.heap.size + 2) rfl HP.out.c0 HP.out.c1 HP.out.c2) rfl ?_
   exact ⟨_, _, rfl, HU.out, HB.out⟩
 · obtain ⟨bA, bB, bR, hB0⟩ := box323 w (.bool false) (.bool s) (.slice A l.length c) (.bool t) (.slice B k.length d) (.bool false) (.bool false) (.slice none 0 0) 27 25
   obtain ⟨T1, HR, HB⟩ := hid3 (r5times_n n1 n2 n3 rfl (by omega) (by omega) (u.below hB0) (v.below hB0)) bR hB0
   obtain ⟨a0, a1, a2, _, _, _, _⟩ := bA
   obtain ⟨b0, b1, _, _, _⟩ := bB
   clear u v n1 n2 n3 hl hk bR hB0
   go_enter Tryz.func52, Tryz.ntmps52
   go_wp2_with fail
   refine T1.out.mono ?_
   rintro e w2 ⟨A2, c2, rfl, u2, hc⟩
   have H2 := from_ HB.out hc
   have R2 := HR.out.below hc
   have z := HR.out.lt
   have hP := R2.put H2 (show w.heap.size ≤ w.heap.size + 2 by omega) (.bool false) (.bool rs) (.slice A2 rl.length c2)
   have hu := hP.keep (fun (h : _ ≤ w.heap.size + 2) => by omega) u2
   obtain ⟨HP, HU⟩ := hid2 hP (hu.mono (le_old _))
   obtain ⟨q0, q1, q2, f0, f1, f2, _⟩ := R2
   clear hP hu u2 hc H2 z a0 a1 a2 b0 b1
   go_wp2
   refine bodyPost_ret (res_bound rfl _ (w.heap.size + 2) rfl HP.out.c0 HP.out.c1 HP.out.c2) rfl ?_
   exact ⟨_, _, rfl, HU.out, HP.out.bel⟩
theorem r16down_w {k : List Nat} (h : (n = true ∧ r = true ∧ rs = s ∧ rl = l) ∨ (n = false ∧ r = false ∧ ∃ x y, Nm x s l ∧ Nm y t k ∧ y ≠ 0 ∧ Nm (rq x y true) rs rl)) (hl : l.length ≤ 1000) (hk : k.length ≤ 1000) (u : U64s w Z1 A c l) (v : U64s w Z2 B d k) :
  Calls Tryz.prog 54 #[.agg #[.bool n, .bool s, .slice A l.length c], .agg #[.bool t, .slice B k.length d]] w fun e w' => ∃ E e', e = .returned (.agg #[.bool r, .bool rs, .slice E rl.length e']) ∧ U64s w' old E e' rl ∧ Below w.heap.size w w' := by
 rcases h with ⟨rfl, rfl, rfl, rfl⟩ | ⟨rfl, rfl, x, y, n1, n2, h0, n3⟩
 · obtain ⟨_, _, bR, hB0⟩ := box323 w (.bool true) (.bool rs) (.slice A rl.length c) (.bool t) (.slice B k.length d) (.bool true) (.bool rs) (.slice A rl.length c) 27 25
   obtain ⟨bA, bB, bQ, _⟩ := box323 w (.bool true) (.bool rs) (.slice A rl.length c) (.bool t) (.slice B k.length d) (.bool false) (.bool false) (.slice none 0 0) 27 25
   obtain ⟨HP, HB, HU⟩ := hid3 bR hB0 ((u.below hB0).mono (le_old _))
   obtain ⟨a0, a1, a2, _, _, _, _⟩ := bA
   obtain ⟨q0, q1, q2, f0, f1, f2, _⟩ := bQ
   clear u v hl hk bB bR hB0
   go_enter Tryz.func54, Tryz.ntmps54
   go_wp2
   refine bodyPost_ret (res_bound rfl _ (w.heap.size + 2) rfl HP.out.c0 HP.out.c1 HP.out.c2) rfl ?_
   exact ⟨_, _, rfl, HU.out, HB.out⟩
 · obtain ⟨bA, bB, bR, hB0⟩ := box323 w (.bool false) (.bool s) (.slice A l.length c) (.bool t) (.slice B k.length d) (.bool false) (.bool false) (.slice none 0 0) 27 25
   obtain ⟨T1, HR, HB⟩ := hid3 (r5down_n n1 n2 n3 rfl h0 (by omega) (by omega) (u.below hB0) (v.below hB0)) bR hB0
   obtain ⟨a0, a1, a2, _, _, _, _⟩ := bA
   obtain ⟨b0, b1, _, _, _⟩ := bB
   clear u v n1 n2 n3 h0 hl hk bR hB0
   go_enter Tryz.func54, Tryz.ntmps54
   go_wp2_with fail
   refine T1.out.mono ?_
   rintro e w2 ⟨A2, c2, rfl, u2, hc⟩
   have H2 := from_ HB.out hc
   have R2 := HR.out.below hc
   have z := HR.out.lt
   have hP := R2.put H2 (show w.heap.size ≤ w.heap.size + 2 by omega) (.bool false) (.bool rs) (.slice A2 rl.length c2)
   have hu := hP.keep (fun (h : _ ≤ w.heap.size + 2) => by omega) u2
   obtain ⟨HP, HU⟩ := hid2 hP (hu.mono (le_old _))
   obtain ⟨q0, q1, q2, f0, f1, f2, _⟩ := R2
   clear hP hu u2 hc H2 z a0 a1 a2 b0 b1
   go_wp2
   refine bodyPost_ret (res_bound rfl _ (w.heap.size + 2) rfl HP.out.c0 HP.out.c1 HP.out.c2) rfl ?_
   exact ⟨_, _, rfl, HU.out, HP.out.bel⟩
theorem r16quotient_w {k : List Nat} (h : (m = true ∧ r = false ∧ rs = false ∧ rl = []) ∨ (m = false ∧ n = true ∧ r = true ∧ rs = s ∧ rl = l) ∨ (m = false ∧ n = false ∧ r = false ∧ ∃ x y, Nm x s l ∧ Nm y t k ∧ y ≠ 0 ∧ Nm (rq x y true) rs rl)) (hl : l.length ≤ 1000) (hk : k.length ≤ 1000) (u : U64s w Z1 A c l) (v : U64s w Z2 B d k) :
  Calls Tryz.prog 83 #[.agg #[.bool n, .bool s, .slice A l.length c], .agg #[.bool m, .bool t, .slice B k.length d]] w fun e w' => ∃ E e', e = .returned (.agg #[.bool r, .bool rs, .slice E rl.length e']) ∧ U64s w' old E e' rl ∧ Below w.heap.size w w' := by
 rcases h with ⟨rfl, rfl, rfl, rfl⟩ | ⟨rfl, rfl, rfl, rfl, rfl⟩ | ⟨rfl, rfl, rfl, x, y, n1, n2, h0, n3⟩
 · obtain ⟨bA, bB, bR, hB0⟩ := boxS w (.bool n) (.bool s) (.slice A l.length c) (.bool true) (.bool t) (.slice B k.length d) (.bool false) (.bool false) (.slice none 0 0) 27
   have t0 := r16end_w (w := (((w.alloc (.cells #[.bool n, .bool s, .slice A l.length c] 27)).alloc (.cells #[.bool true, .bool t, .slice B k.length d] 27)).alloc (.cells #[.bool false, .bool false, .slice none 0 0] 27))) (x := 0) (s := false) (l := []) ⟨rfl, rfl⟩ (by decide) (U64s.nil _ old)
   simp only [List.length_nil] at t0 ⊢
   obtain ⟨T1, HR, HB⟩ := hid3 (t0) bR hB0
   obtain ⟨a0, a1, a2, _, _, _, _⟩ := bA
   obtain ⟨b0, b1, b2, _, _, _, _⟩ := bB
   clear u v hl hk bR hB0 t0
   go_enter Tryz.func83, Tryz.ntmps83
   go_wp2_with fail
   refine T1.out.mono ?_
   rintro e w2 ⟨A2, c2, rfl, u2, hc⟩
   have H2 := from_ HB.out hc
   have R2 := HR.out.below hc
   have z := HR.out.lt
   have hP := R2.put H2 (show w.heap.size ≤ w.heap.size + 2 by omega) (.bool false) (.bool false) (.slice A2 0 c2)
   have hu := hP.keep (fun (h : _ ≤ w.heap.size + 2) => by omega) u2
   obtain ⟨HP, HU⟩ := hid2 hP (hu.mono (le_old _))
   obtain ⟨q0, q1, q2, f0, f1, f2, _⟩ := R2
   clear hP hu u2 hc H2 z a0 a1 a2 b0 b1 b2
   go_wp2
   refine bodyPost_ret (res_bound rfl _ (w.heap.size + 2) rfl HP.out.c0 HP.out.c1 HP.out.c2) rfl ?_
   exact ⟨_, _, rfl, HU.out, HP.out.bel⟩
 · obtain ⟨bA, bB, bQ, _⟩ := boxS w (.bool true) (.bool rs) (.slice A rl.length c) (.bool false) (.bool t) (.slice B k.length d) (.bool false) (.bool false) (.slice none 0 0) 27
   obtain ⟨_, _, bR, hB0⟩ := boxS w (.bool true) (.bool rs) (.slice A rl.length c) (.bool false) (.bool t) (.slice B k.length d) (.bool true) (.bool rs) (.slice A rl.length c) 27
   obtain ⟨HP, HB, HU⟩ := hid3 bR hB0 ((u.below hB0).mono (le_old _))
   obtain ⟨a0, a1, a2, _, _, _, _⟩ := bA
   obtain ⟨b0, b1, b2, _, _, _, _⟩ := bB
   obtain ⟨q0, q1, q2, f0, f1, f2, _⟩ := bQ
   clear u v hl hk bR hB0
   go_enter Tryz.func83, Tryz.ntmps83
   go_wp2
   refine bodyPost_ret (res_bound rfl _ (w.heap.size + 2) rfl HP.out.c0 HP.out.c1 HP.out.c2) rfl ?_
   exact ⟨_, _, rfl, HU.out, HB.out⟩
 · obtain ⟨bA, bB, bR, hB0⟩ := boxS w (.bool false) (.bool s) (.slice A l.length c) (.bool false) (.bool t) (.slice B k.length d) (.bool false) (.bool false) (.slice none 0 0) 27
   obtain ⟨T1, HR, HB⟩ := hid3 (r5down_n n1 n2 n3 rfl h0 (by omega) (by omega) (u.below hB0) (v.below hB0)) bR hB0
   obtain ⟨a0, a1, a2, _, _, _, _⟩ := bA
   obtain ⟨b0, b1, b2, _, _, _, _⟩ := bB
   clear u v hl hk bR hB0 n1 n2 n3 h0
   go_enter Tryz.func83, Tryz.ntmps83
   go_wp2_with fail
   refine T1.out.mono ?_
   rintro e w2 ⟨A2, c2, rfl, u2, hc⟩
   have H2 := from_ HB.out hc
   have R2 := HR.out.below hc
   have z := HR.out.lt
   have hP := R2.put H2 (show w.heap.size ≤ w.heap.size + 2 by omega) (.bool false) (.bool rs) (.slice A2 rl.length c2)
   have hu := hP.keep (fun (h : _ ≤ w.heap.size + 2) => by omega) u2
   obtain ⟨HP, HU⟩ := hid2 hP (hu.mono (le_old _))
   obtain ⟨q0, q1, q2, f0, f1, f2, _⟩ := R2
   clear hP hu u2 hc H2 z a0 a1 a2 b0 b1 b2
   go_wp2
   refine bodyPost_ret (res_bound rfl _ (w.heap.size + 2) rfl HP.out.c0 HP.out.c1 HP.out.c2) rfl ?_
   exact ⟨_, _, rfl, HU.out, HP.out.bel⟩
end Go.Proofs.YthpngihjcphigaaGreat
