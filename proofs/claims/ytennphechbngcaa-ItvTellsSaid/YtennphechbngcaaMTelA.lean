/-
  Intervals, the document's: ends, Between, Of, Point, Neg, Check, Meet, Join. No conditions but bounds on lengths.
-/
import Derived.Test.YtennphechbngcaaMItwN
import Derived.Test.YtennphechbngcaaMTelU
import Derived.Test.YtennphechbngcaaMItvT
import Derived.Test.YtennphechbngcaaMItvX
import Derived.Test.YtennphechbngcaaMWhV
import Derived.Test.YtennphechbngcaaMWhJ
namespace Go.Proofs.Ytennphechbngcaa
open Go.RowKit
set_option linter.unusedVariables false
set_option linter.unusedSimpArgs false

theorem NoU.new6 (w : World) (n0 s0 n1 s1 : Bool) (A B : Option Addr) (a c b d : Nat) (t : TypeId) : NoU (w.alloc (.cells #[.bool n0, .bool s0, .slice A a c, .bool n1, .bool s1, .slice B b d] t)) w.heap.size := fun o m e => by
  have h := cell_of_row (w.alloc (.cells #[.bool n0, .bool s0, .slice A a c, .bool n1, .bool s1, .slice B b d] t)) w.heap.size o #[.bool n0, .bool s0, .slice A a c, .bool n1, .bool s1, .slice B b d] t (0, 0) (heap_alloc_new w _)
  rw [h] at e
  match o, e with
  | 0, e => cases e
  | 1, e => cases e
  | 2, e => cases e
  | 3, e => cases e
  | 4, e => cases e
  | 5, e => cases e
  | o + 6, e => simp at e
theorem U64s.awayJ {w : World} {Z : Zone} {A : Option Addr} {c : Nat} {l : List Nat} (h : U64s w Z A c l) : ∃ Y : Zone, U64s w Y A c l ∧ ∀ g, w.heap.size ≤ g → ¬ Y.blk g :=
  ⟨⟨fun b => b < w.heap.size, False⟩, ⟨h.small, h.cap, h.max, h.nul, fun h0 => by
    obtain ⟨b, o, e, hz, _, hc⟩ := h.row h0
    exact ⟨b, o, e, lt_of_cell (hc 0 _ (List.getElem?_eq_getElem h0)), fun h => h.elim, hc⟩⟩, fun g hg (hb : g < w.heap.size) => by omega⟩
theorem U64s.set6n {w : World} {Z : Zone} {A : Option Addr} {c : Nat} {l : List Nat} {g : Nat} (u : U64s w Z A c l) (h : NoU w g) (x0 x1 x2 x3 x4 x5 : Value) : U64s ((((((w.setCell ⟨g, 0, none⟩ x0).setCell ⟨g, 1, none⟩ x1).setCell ⟨g, 2, none⟩ x2).setCell ⟨g, 3, none⟩ x3).setCell ⟨g, 4, none⟩ x4).setCell ⟨g, 5, none⟩ x5) old A c l :=
  ((u.offB h).set6 (g := g) (fun h => h rfl) x0 x1 x2 x3 x4 x5).mono (le_old _)
theorem c4_st6 {W : World} {g h r i j k l : Nat} {a b c d x0 x1 x2 x3 x4 x5 : Value} (hg : r ≠ g) (hh : r ≠ h) (hs : (W.cell? ⟨g, i, none⟩ = some a ∧ W.cell? ⟨g, j, none⟩ = some b) ∧ W.cell? ⟨h, k, none⟩ = some c ∧ W.cell? ⟨h, l, none⟩ = some d) :
    ((((((((W.setCell ⟨r, 0, none⟩ x0).setCell ⟨r, 1, none⟩ x1).setCell ⟨r, 2, none⟩ x2).setCell ⟨r, 3, none⟩ x3).setCell ⟨r, 4, none⟩ x4).setCell ⟨r, 5, none⟩ x5).cell? ⟨g, i, none⟩ = some a ∧ ((((((W.setCell ⟨r, 0, none⟩ x0).setCell ⟨r, 1, none⟩ x1).setCell ⟨r, 2, none⟩ x2).setCell ⟨r, 3, none⟩ x3).setCell ⟨r, 4, none⟩ x4).setCell ⟨r, 5, none⟩ x5).cell? ⟨g, j, none⟩ = some b) ∧ ((((((W.setCell ⟨r, 0, none⟩ x0).setCell ⟨r, 1, none⟩ x1).setCell ⟨r, 2, none⟩ x2).setCell ⟨r, 3, none⟩ x3).setCell ⟨r, 4, none⟩ x4).setCell ⟨r, 5, none⟩ x5).cell? ⟨h, k, none⟩ = some c ∧ ((((((W.setCell ⟨r, 0, none⟩ x0).setCell ⟨r, 1, none⟩ x1).setCell ⟨r, 2, none⟩ x2).setCell ⟨r, 3, none⟩ x3).setCell ⟨r, 4, none⟩ x4).setCell ⟨r, 5, none⟩ x5).cell? ⟨h, l, none⟩ = some d) := ⟨⟨st6 hs.1.1 hg, st6 hs.1.2 hg⟩, st6 hs.2.1 hh, st6 hs.2.2 hh⟩
set_option maxRecDepth 100000 in
set_option maxHeartbeats 8000000 in
theorem r16end_w {w : World} {Z : Zone} {x : Int} {s : Bool} {l : List Nat} {A : Option Addr} {c : Nat} (n : Nm x s l) (hl : l.length ≤ 1000) (u : U64s w Z A c l) :
    Calls Try.prog 81 #[.agg #[.bool s, .slice A l.length c]] w fun e w' => ∃ B d, e = .returned (.agg #[.bool false, .bool s, .slice B l.length d]) ∧ U64s w' (new w.heap.size) B d l ∧ Below w.heap.size w w' := by
  obtain ⟨bA, bR, hB0⟩ := boxR w (.bool s) (.slice A l.length c) (.bool false) (.bool false) (.slice none 0 0) 25 27
  obtain ⟨s', l', n'⟩ : ∃ s l, Nm (-x) s l := ⟨_, _, rfl, rfl⟩
  have hl' : l'.length ≤ 1000 := by rw [n'.2, Int.natAbs_neg, ← n.2]; exact hl
  have T1 := Lib.hid (r5turned_v n n' rfl (by omega) (u.below hB0))
  have T2 := Lib.hid (fun (W : World) (B : Option Addr) (d : Nat) (Y : Zone) (v : U64s W Y B d l') => r5turned_v n' n (Int.neg_neg x) (by omega) v)
  have HR := Lib.hid bR
  have HB := Lib.hid hB0
  obtain ⟨a0, a1, _, _, _⟩ := bA
  clear u hB0 bR n n' hl hl'
  go_enter Try.func81, Try.ntmps81
  go_wp2_with fail
  refine T1.out.mono ?_
  rintro e w1 ⟨A1, c1, rfl, u1, hc⟩
  have H1 := Lib.hid (from_ HB.out hc)
  have R1 := Lib.hid (HR.out.below hc)
  clear hc a0 a1
  go_wp2_with fail
  refine (T2.out _ _ _ _ u1).mono ?_
  rintro e w2 ⟨A2, c2, rfl, u2, hc⟩
  have H2 := from_ H1.out hc
  have R2 := R1.out.below hc
  have z := R1.out.lt
  have hP := R2.put H2 (by omega) (.bool false) (.bool s) (.slice A2 l.length c2)
  have hu := hP.keep (fun (h : _ ≤ w.heap.size + 1) => by omega) u2
  have HP := Lib.hid hP
  have HU := Lib.hid hu
  have h1 := H1.out.size
  obtain ⟨q0, q1, q2, f0, f1, f2, _⟩ := R2
  clear hP hu u1 u2 hc H2 z
  go_wp2
  refine bodyPost_ret (res_bound rfl _ (w.heap.size + 1) rfl HP.out.c0 HP.out.c1 HP.out.c2) rfl ?_
  exact ⟨_, _, rfl, HU.out.mono (new_le h1), HP.out.bel⟩
theorem boxBt (w : World) (a0 a1 b0 b1 r0 r1 r2 r3 r4 r5 : Value) (t u : TypeId) :
    (Box (((w.alloc (.cells #[a0, a1] t)).alloc (.cells #[b0, b1] t)).alloc (.cells #[r0, r1, r2, r3, r4, r5] u)) w.heap.size a0 a1 ∧
    Box (((w.alloc (.cells #[a0, a1] t)).alloc (.cells #[b0, b1] t)).alloc (.cells #[r0, r1, r2, r3, r4, r5] u)) (w.heap.size + 1) b0 b1) ∧
    Box6 (((w.alloc (.cells #[a0, a1] t)).alloc (.cells #[b0, b1] t)).alloc (.cells #[r0, r1, r2, r3, r4, r5] u)) (w.heap.size + 2) r0 r1 r2 r3 r4 r5 ∧
    Below w.heap.size w (((w.alloc (.cells #[a0, a1] t)).alloc (.cells #[b0, b1] t)).alloc (.cells #[r0, r1, r2, r3, r4, r5] u)) := by
  have h1 := ((Box.new w a0 a1 t).alloc (.cells #[b0, b1] t)).alloc (.cells #[r0, r1, r2, r3, r4, r5] u)
  have h2 := (Box.new (w.alloc (.cells #[a0, a1] t)) b0 b1 t).alloc (.cells #[r0, r1, r2, r3, r4, r5] u)
  have h3 := Box6.new ((w.alloc (.cells #[a0, a1] t)).alloc (.cells #[b0, b1] t)) r0 r1 r2 r3 r4 r5 u
  simp only [World.size_alloc] at h2 h3
  exact ⟨⟨h1, h2⟩, h3, (((Below.refl _ w).alloc (Nat.le_refl _) _).alloc (by simp) _).alloc (by simp; omega) _⟩
set_option maxRecDepth 100000 in
set_option maxHeartbeats 8000000 in
theorem r16between_w {w : World} {Z1 Z2 : Zone} {x y : Int} {s t : Bool} {l k : List Nat} {A B : Option Addr} {c d : Nat} (n : Nm x s l) (m : Nm y t k) (hl : l.length ≤ 1000) (hk : k.length ≤ 1000) (u : U64s w Z1 A c l) (v : U64s w Z2 B d k) :
    Calls Try.prog 53 #[.agg #[.bool s, .slice A l.length c], .agg #[.bool t, .slice B k.length d]] w fun e w' => ∃ A1 c1 A2 c2, e = .returned (.agg #[.bool false, .bool s, .slice A1 l.length c1, .bool false, .bool t, .slice A2 k.length c2]) ∧ U64s w' (new w.heap.size) A1 c1 l ∧ U64s w' (new w.heap.size) A2 c2 k ∧ Below w.heap.size w w' := by
  obtain ⟨⟨bA, bB⟩, bR, hB0⟩ := boxBt w (.bool s) (.slice A l.length c) (.bool t) (.slice B k.length d) (.bool false) (.bool false) (.slice none 0 0) (.bool false) (.bool false) (.slice none 0 0) 25 29
  have C1 := Lib.hid (fun (W : World) (h : Below w.heap.size w W) => r16end_w n hl (u.below h))
  have C2 := Lib.hid (fun (W : World) (h : Below w.heap.size w W) => r16end_w m hk (v.below h))
  have s0 := bA.c0
  have s1 := bA.c1
  have s2 := bB.c0
  have s3 := bB.c1
  have HR := Lib.hid bR
  have HB := Lib.hid hB0
  clear u v bA bB bR hB0 n m hl hk
  have hs := (show (_ ∧ _) ∧ _ ∧ _ from ⟨⟨s0, s1⟩, s2, s3⟩)
  replace hs := c4_keep hs (Below.refl _ _).drew
  have Hc := Lib.hid HB.out.drew
  replace HR := Lib.hid (HR.out.below (Below.refl _ _).drew)
  clear s0 s1 s2 s3
  obtain ⟨gR, hgR⟩ : ∃ gR, gR = w.heap.size + 2 := ⟨_, rfl⟩
  rw [← hgR] at HR
  go_enter Try.func53, Try.ntmps53
  go_upto_region 1 with fail
  (try simp only [show w.heap.size + 1 + 1 = w.heap.size + 2 from rfl])
  simp only [show w.heap.size + 2 = gR from hgR.symm]
  have N1 := Lib.hid (show gR ≠ w.heap.size by omega)
  have N2 := Lib.hid (show gR ≠ w.heap.size + 1 by omega)
  have N3 := Lib.hid (show w.heap.size ≤ gR by omega)
  clear hgR HB
  first | go_region_held3 (fun w' => (w'.cell? ⟨w.heap.size, 0, none⟩ = some (.bool s) ∧ w'.cell? ⟨w.heap.size, 1, none⟩ = some (.slice A l.length c)) ∧ w'.cell? ⟨w.heap.size + 1, 0, none⟩ = some (.bool t) ∧ w'.cell? ⟨w.heap.size + 1, 1, none⟩ = some (.slice B k.length d))
    (first
      | with_reducible exact hs
      | with_reducible exact c4_st6 N1.out N2.out hs
      | exact c4_keep hs ((Below.refl _ _).alloc (Nat.le_refl _) _))
    (first
      | (go_at_call 81; with_reducible refine (C1.out _ Hc.out).mono ?_; rintro e w2 ⟨D1, d1, rfl, vv1, hc2⟩; (try replace vv2 := vv2.below hc2); (try clear g0 g1 g2 g3 g4 g5 f0 f1 f2 f3 f4 f5); replace hs := c4_keep hs hc2; have zl := HR.out.lt; replace HR := Lib.hid (HR.out.below hc2); have Hp := Hc; replace Hc := Lib.hid (from_ Hc.out hc2); obtain ⟨g0, g1, g2, g3, g4, g5, f0, f1, f2, f3, f4, f5, _⟩ := id HR.out)
      | (go_at_call 81; with_reducible refine (C2.out _ Hc.out).mono ?_; rintro e w3 ⟨D2, d2, rfl, vv2, hc2⟩; (try replace vv1 := vv1.below hc2); (try clear g0 g1 g2 g3 g4 g5 f0 f1 f2 f3 f4 f5); replace hs := c4_keep hs hc2; have zm := HR.out.lt; replace HR := Lib.hid (HR.out.below hc2); have Hq := Hc; replace Hc := Lib.hid (from_ Hc.out hc2); obtain ⟨g0, g1, g2, g3, g4, g5, f0, f1, f2, f3, f4, f5, _⟩ := id HR.out)) | fail
  all_goals
    have HP := Lib.hid (HR.out.put Hc.out N3.out (.bool false) (.bool s) (.slice D1 l.length d1) (.bool false) (.bool t) (.slice D2 k.length d2))
    have U1 := Lib.hid ((vv1.set6 (g := gR) (fun (h : _ ≤ gR) => by omega) (.bool false) (.bool s) (.slice D1 l.length d1) (.bool false) (.bool t) (.slice D2 k.length d2)).mono (new_le Hp.out.size))
    have U2 := Lib.hid ((vv2.set6 (g := gR) (fun (h : _ ≤ gR) => by omega) (.bool false) (.bool s) (.slice D1 l.length d1) (.bool false) (.bool t) (.slice D2 k.length d2)).mono (new_le Hq.out.size))
    clear vv1 vv2
    go_wp2
    refine bodyPost_ret (res_itv rfl _ gR rfl HP.out.box) rfl ?_
    exact ⟨_, _, _, _, rfl, U1.out, U2.out, HP.out.bel⟩
set_option maxRecDepth 100000 in
set_option maxHeartbeats 8000000 in
theorem r16turned_w {w : World} {Z : Zone} {n s n' s' : Bool} {l l' : List Nat} {A : Option Addr} {c : Nat} (h : (n = true ∧ n' = true ∧ s' = s ∧ l' = l) ∨ (n = false ∧ n' = false ∧ ∃ x, Nm x s l ∧ Nm (-x) s' l')) (hl : l.length ≤ 1000) (u : U64s w Z A c l) :
    Calls Try.prog 77 #[.agg #[.bool n, .bool s, .slice A l.length c]] w fun e w' => ∃ B d, e = .returned (.agg #[.bool n', .bool s', .slice B l'.length d]) ∧ U64s w' old B d l' ∧ Below w.heap.size w w' := by
  obtain ⟨Y, v, hY⟩ := u.awayJ
  obtain ⟨bA, bR, hB0⟩ := boxQ w (.bool n) (.bool s) (.slice A l.length c) (.bool false) (.bool false) (.slice none 0 0) 27 27
  have HB := Lib.hid hB0
  have HR := Lib.hid bR
  obtain ⟨a0, a1, a2, _, _, _, _⟩ := bA
  rcases h with ⟨rfl, rfl, rfl, rfl⟩ | ⟨rfl, rfl, x, n1, n2⟩
  · obtain ⟨_, bR2, hB2⟩ := boxQ w (.bool true) (.bool s') (.slice A l'.length c) (.bool true) (.bool s') (.slice A l'.length c) 27 27
    have U := Lib.hid ((u.below hB2).mono (le_old _))
    have HP := Lib.hid bR2
    have HQ := Lib.hid hB2
    obtain ⟨q0, q1, q2, f0, f1, f2, _⟩ := bR
    clear u v hY hB0 hB2 bR2
    go_enter Try.func77, Try.ntmps77
    go_wp2
    refine bodyPost_ret (res_bound rfl _ (w.heap.size + 1) rfl HP.out.c0 HP.out.c1 HP.out.c2) rfl ?_
    exact ⟨_, _, rfl, U.out, HQ.out⟩
  · have T1 := Lib.hid (r5turned_v n1 n2 rfl (by omega) (u.below hB0))
    clear u v hY bR hB0 n1 n2
    go_enter Try.func77, Try.ntmps77
    go_wp2_with fail
    refine T1.out.mono ?_
    rintro e w2 ⟨A2, c2, rfl, u2, hc⟩
    have H2 := from_ HB.out hc
    have R2 := HR.out.below hc
    have z := HR.out.lt
    have hP := R2.put H2 (by omega) (.bool false) (.bool s') (.slice A2 l'.length c2)
    have hu := hP.keep (fun (h : _ ≤ w.heap.size + 1) => by omega) u2
    have HP := Lib.hid hP
    have HU := Lib.hid (hu.mono (le_old _))
    obtain ⟨q0, q1, q2, f0, f1, f2, _⟩ := R2
    clear hP hu u2 hc H2 z a0 a1 a2
    go_wp2
    refine bodyPost_ret (res_bound rfl _ (w.heap.size + 1) rfl HP.out.c0 HP.out.c1 HP.out.c2) rfl ?_
    exact ⟨_, _, rfl, HU.out, HP.out.bel⟩
theorem ends_neg {x : Int} {n s n' s' : Bool} {l l' : List Nat} (hx : -bigZ ≤ x ∧ x ≤ bigZ) (h : (n = nHi x ∧ s = sE x ∧ l = lE x ∧ n' = nLo (-x)) ∨ (n = nLo x ∧ s = sE x ∧ l = lE x ∧ n' = nHi (-x) )) (hb : (n = nHi x → x ≠ -bigZ) ∧ (n = nLo x → x ≠ bigZ) ∨ True) (h2 : s' = sE (-x) ∧ l' = lE (-x)) (hk : n = false → -bigZ < x ∧ x < bigZ) (hk2 : n = true → x = bigZ ∨ x = -bigZ) : (n = true ∧ n' = true ∧ s' = s ∧ l' = l) ∨ (n = false ∧ n' = false ∧ ∃ y, Nm y s l ∧ Nm (-y) s' l') := by
  have h0 := bigZ_pos
  obtain ⟨rfl, rfl⟩ := h2
  cases n with
  | false =>
    have hk := hk rfl
    have e1 := nm_e (n := x) hk
    have e2 := nm_e (n := -x) (by omega)
    refine .inr ⟨rfl, ?_, x, ?_, e2⟩
    · rcases h with h | h
      · rw [h.2.2.2]; exact nLo_no (by omega)
      · rw [h.2.2.2]; exact nHi_no (by omega)
    · rcases h with h | h
      · rw [h.2.1, h.2.2.1]; exact e1
      · rw [h.2.1, h.2.2.1]; exact e1
  | true =>
    have hk := hk2 rfl
    have es : sE (-x) = sE x := by unfold sE; rw [decide_eq_false (by omega), decide_eq_false (by omega)]
    have el : lE (-x) = lE x := by unfold lE; rw [if_neg (by omega), if_neg (by omega)]
    refine .inl ⟨rfl, ?_, ?_, ?_⟩
    · rcases h with h | h
      · rw [h.2.2.2]
        have : x = bigZ := of_decide_eq_true (h.1.symm)
        exact decide_eq_true (by omega)
      · rw [h.2.2.2]
        have : x = -bigZ := of_decide_eq_true (h.1.symm)
        exact decide_eq_true (by omega)
    · rcases h with h | h <;> rw [es, h.2.1]
    · rcases h with h | h <;> rw [el, h.2.2.1]
set_option maxRecDepth 100000 in
set_option maxHeartbeats 8000000 in
theorem r16other_w {w : World} {Z1 Z2 : Zone} {p r : Iv} {P : IvP} {A B : Option Addr} {a b : Nat} (hp : IvW P p) (gp : IvN 60 P.1 P.2) (hr : IvW (ivNg P) r) (u1 : U64s w Z1 A a p.l0) (u2 : U64s w Z2 B b p.l1) :
    Calls Try.prog 50 #[.agg #[.bool p.n0, .bool p.s0, .slice A p.l0.length a, .bool p.n1, .bool p.s1, .slice B p.l1.length b]] w fun e w' => ∃ rA ra rB rb, e = .returned (.agg #[.bool r.n0, .bool r.s0, .slice rA r.l0.length ra, .bool r.n1, .bool r.s1, .slice rB r.l1.length rb]) ∧ U64s w' old rA ra r.l0 ∧ U64s w' old rB rb r.l1 ∧ Below w.heap.size w w' := by
  have kp := hp.k gp (by omega)
  have h0 := bigZ_pos
  have r1 := gp.lo.range (by omega)
  have r2 := gp.hi.range (by omega)
  have n1 := gp.nlo
  have n2 := gp.nhi
  obtain ⟨⟨p0, p1, p2⟩, p3, p4, p5⟩ := hp
  obtain ⟨⟨q0, q1, q2⟩, q3, q4, q5⟩ := hr
  have e1 := ends_neg (x := P.2) (n := p.n1) (s := p.s1) (l := p.l1) (n' := r.n0) (s' := r.s0) (l' := r.l0) r2 (.inl ⟨p3, p4, p5, q0⟩) (.inr trivial) ⟨q1, q2⟩ (fun h => by rw [p3] at h; have := of_decide_eq_false h; omega) (fun h => by rw [p3] at h; exact .inl (of_decide_eq_true h))
  have e2 := ends_neg (x := P.1) (n := p.n0) (s := p.s0) (l := p.l0) (n' := r.n1) (s' := r.s1) (l' := r.l1) r1 (.inr ⟨p0, p1, p2, q3⟩) (.inr trivial) ⟨q4, q5⟩ (fun h => by rw [p0] at h; have := of_decide_eq_false h; omega) (fun h => by rw [p0] at h; exact .inr (of_decide_eq_true h))
  obtain ⟨bA, bR, hB0⟩ := boxT w (.bool p.n0) (.bool p.s0) (.slice A p.l0.length a) (.bool p.n1) (.bool p.s1) (.slice B p.l1.length b) (.bool false) (.bool false) (.slice none 0 0) (.bool false) (.bool false) (.slice none 0 0) 29
  have nR := NoU.new6 (w.alloc (.cells #[.bool p.n0, .bool p.s0, .slice A p.l0.length a, .bool p.n1, .bool p.s1, .slice B p.l1.length b] 29)) false false false false none none 0 0 0 0 29
  rw [World.size_alloc] at nR
  have C1 := Lib.hid (fun (W : World) (h : Below w.heap.size w W) => r16turned_w e1 (by have := kp.q1; omega) (u2.below h))
  have C2 := Lib.hid (fun (W : World) (h : Below w.heap.size w W) => r16turned_w e2 (by have := kp.q0; omega) (u1.below h))
  have hs := bA.all
  replace hs := box6_keep hs (Below.refl _ _).drew
  have Hc := Lib.hid hB0.drew
  have HR := Lib.hid (bR.below (Below.refl _ _).drew)
  have HN := Lib.hid (nR.below bR.lt (Below.refl _ _).drew)
  clear u1 u2 kp r1 r2 n1 n2 p0 p1 p2 p3 p4 p5 q0 q1 q2 q3 q4 q5 e1 e2 bA bR nR hB0 gp
  obtain ⟨gR, hgR⟩ : ∃ gR, gR = w.heap.size + 1 := ⟨_, rfl⟩
  rw [← hgR] at HR HN
  go_enter Try.func50, Try.ntmps50
  go_upto_region 1 with fail
  simp only [show w.heap.size + 1 = gR from hgR.symm]
  have N1 := Lib.hid (show gR ≠ w.heap.size by omega)
  have N3 := Lib.hid (show w.heap.size ≤ gR by omega)
  clear hgR
  first | go_region_held3 (fun w' => w'.cell? ⟨w.heap.size, 0, none⟩ = some (.bool p.n0) ∧ w'.cell? ⟨w.heap.size, 1, none⟩ = some (.bool p.s0) ∧ w'.cell? ⟨w.heap.size, 2, none⟩ = some (.slice A p.l0.length a) ∧ w'.cell? ⟨w.heap.size, 3, none⟩ = some (.bool p.n1) ∧ w'.cell? ⟨w.heap.size, 4, none⟩ = some (.bool p.s1) ∧ w'.cell? ⟨w.heap.size, 5, none⟩ = some (.slice B p.l1.length b))
    (first
      | with_reducible exact hs
      | with_reducible exact box6_st6 N1.out hs
      | exact box6_keep hs ((Below.refl _ _).alloc (Nat.le_refl _) _))
    (first
      | (go_at_call 77; with_reducible refine (C1.out _ Hc.out).mono ?_; rintro e w2 ⟨D1, d1, rfl, vv1, hc2⟩; (try replace vv2 := vv2.below hc2); (try clear g0 g1 g2 g3 g4 g5 f0 f1 f2 f3 f4 f5); replace hs := box6_keep hs hc2; replace HN := Lib.hid (HN.out.below HR.out.lt hc2); replace HR := Lib.hid (HR.out.below hc2); replace Hc := Lib.hid (from_ Hc.out hc2); obtain ⟨g0, g1, g2, g3, g4, g5, f0, f1, f2, f3, f4, f5, _⟩ := id HR.out)
      | (go_at_call 77; with_reducible refine (C2.out _ Hc.out).mono ?_; rintro e w3 ⟨D2, d2, rfl, vv2, hc2⟩; (try replace vv1 := vv1.below hc2); (try clear g0 g1 g2 g3 g4 g5 f0 f1 f2 f3 f4 f5); replace hs := box6_keep hs hc2; replace HN := Lib.hid (HN.out.below HR.out.lt hc2); replace HR := Lib.hid (HR.out.below hc2); replace Hc := Lib.hid (from_ Hc.out hc2); obtain ⟨g0, g1, g2, g3, g4, g5, f0, f1, f2, f3, f4, f5, _⟩ := id HR.out)) | fail
  all_goals
    have HP := Lib.hid (HR.out.put Hc.out N3.out (.bool r.n0) (.bool r.s0) (.slice D1 r.l0.length d1) (.bool r.n1) (.bool r.s1) (.slice D2 r.l1.length d2))
    have U1 := Lib.hid (vv1.set6n HN.out (.bool r.n0) (.bool r.s0) (.slice D1 r.l0.length d1) (.bool r.n1) (.bool r.s1) (.slice D2 r.l1.length d2))
    have U2 := Lib.hid (vv2.set6n HN.out (.bool r.n0) (.bool r.s0) (.slice D1 r.l0.length d1) (.bool r.n1) (.bool r.s1) (.slice D2 r.l1.length d2))
    clear vv1 vv2
    go_wp2
    refine bodyPost_ret (res_itv rfl _ gR rfl HP.out.box) rfl ?_
    exact ⟨_, _, _, _, rfl, U1.out, U2.out, HP.out.bel⟩
set_option maxRecDepth 100000 in
set_option maxHeartbeats 8000000 in
theorem r16neg_good {w : World} {Z1 Z2 : Zone} {p r : Iv} {P : IvP} {A B : Option Addr} {a b : Nat} (hp : IvW P p) (gp : IvN 60 P.1 P.2) (hr : IvW (ivNg P) r) (u1 : U64s w Z1 A a p.l0) (u2 : U64s w Z2 B b p.l1) :
    Calls Try.prog 17 #[.agg #[.bool p.n0, .bool p.s0, .slice A p.l0.length a, .bool p.n1, .bool p.s1, .slice B p.l1.length b]] w fun e w' => ∃ rA ra rB rb, e = .returned (.tuple #[.agg #[.bool r.n0, .bool r.s0, .slice rA r.l0.length ra, .bool r.n1, .bool r.s1, .slice rB r.l1.length rb], .int .i64 0]) ∧ U64s w' old rA ra r.l0 ∧ U64s w' old rB rb r.l1 ∧ Below w.heap.size w w' := by
  have kp := hp.k gp (by omega)
  obtain ⟨bA, bR, hB0⟩ := boxT w (.bool p.n0) (.bool p.s0) (.slice A p.l0.length a) (.bool p.n1) (.bool p.s1) (.slice B p.l1.length b) (.bool false) (.bool false) (.slice none 0 0) (.bool false) (.bool false) (.slice none 0 0) 29
  have nR := NoU.new6 (w.alloc (.cells #[.bool p.n0, .bool p.s0, .slice A p.l0.length a, .bool p.n1, .bool p.s1, .slice B p.l1.length b] 29)) false false false false none none 0 0 0 0 29
  rw [World.size_alloc] at nR
  have MY := Lib.hid (fun (W : World) (h : Below w.heap.size w W) => r16may_any (n0 := p.n0) (s0 := p.s0) (n1 := p.n1) (s1 := p.s1) (u1.below h) (u2.below h) (by have := kp.q0; omega) (by have := kp.q1; omega))
  rw [kp.ok] at MY
  have OT := Lib.hid (fun (W : World) (h : Below w.heap.size w W) => r16other_w hp gp hr (u1.below h) (u2.below h))
  have HA := Lib.hid bA
  have HR := Lib.hid bR
  have HN := Lib.hid nR
  have HB := Lib.hid hB0
  obtain ⟨a0, a1, a2, a3, a4, a5, _, _, _, _, _, _, _⟩ := bA
  clear u1 u2 kp hp gp hr bR nR hB0
  go_enter Try.func17, Try.ntmps17
  go_wp2_with fail
  refine (MY.out _ HB.out).mono ?_
  rintro e w1 ⟨rfl, hc⟩
  clear a0 a1 a2 a3 a4 a5 MY
  replace HN := Lib.hid (HN.out.below HR.out.lt hc)
  replace HA := Lib.hid (HA.out.below hc)
  replace HR := Lib.hid (HR.out.below hc)
  replace HB := Lib.hid (from_ HB.out hc)
  clear hc
  obtain ⟨a0, a1, a2, a3, a4, a5, _, _, _, _, _, _, _⟩ := id HA.out
  go_wp2_with fail
  refine (OT.out _ HB.out).mono ?_
  rintro e w2 ⟨D1, d1, D2, d2, rfl, v1, v2, hc⟩
  replace HN := Lib.hid (HN.out.below HR.out.lt hc)
  replace HR := Lib.hid (HR.out.below hc)
  replace HB := Lib.hid (from_ HB.out hc)
  clear hc a0 a1 a2 a3 a4 a5
  have HP := Lib.hid (HR.out.put HB.out (by omega) (.bool r.n0) (.bool r.s0) (.slice D1 r.l0.length d1) (.bool r.n1) (.bool r.s1) (.slice D2 r.l1.length d2))
  have U1 := Lib.hid (v1.set6n HN.out (.bool r.n0) (.bool r.s0) (.slice D1 r.l0.length d1) (.bool r.n1) (.bool r.s1) (.slice D2 r.l1.length d2))
  have U2 := Lib.hid (v2.set6n HN.out (.bool r.n0) (.bool r.s0) (.slice D1 r.l0.length d1) (.bool r.n1) (.bool r.s1) (.slice D2 r.l1.length d2))
  obtain ⟨g0, g1, g2, g3, g4, g5, f0, f1, f2, f3, f4, f5, _⟩ := id HR.out
  clear v1 v2
  go_wp2
  refine bodyPost_ret (res_itv2 rfl _ (w.heap.size + 1) rfl HP.out.box) rfl ?_
  exact ⟨_, _, _, _, rfl, U1.out, U2.out, HP.out.bel⟩
set_option maxRecDepth 100000 in
set_option maxHeartbeats 8000000 in
theorem r16neg_bad {w : World} {Z1 Z2 : Zone} {p : Iv} {A B : Option Addr} {a b : Nat} (u1 : U64s w Z1 A a p.l0) (u2 : U64s w Z2 B b p.l1) (q1 : p.l0.length ≤ 60) (q2 : p.l1.length ≤ 60) (hb : p.ok = false) :
    Calls Try.prog 17 #[.agg #[.bool p.n0, .bool p.s0, .slice A p.l0.length a, .bool p.n1, .bool p.s1, .slice B p.l1.length b]] w fun e w' => e = .returned (.tuple #[.agg #[.bool false, .bool false, .slice none 0 0, .bool false, .bool false, .slice none 0 0], .int .i64 8]) ∧ Below w.heap.size w w' := by
  obtain ⟨bA, bR, hB0⟩ := boxT w (.bool p.n0) (.bool p.s0) (.slice A p.l0.length a) (.bool p.n1) (.bool p.s1) (.slice B p.l1.length b) (.bool false) (.bool false) (.slice none 0 0) (.bool false) (.bool false) (.slice none 0 0) 29
  have MY := Lib.hid (fun (W : World) (h : Below w.heap.size w W) => r16may_any (n0 := p.n0) (s0 := p.s0) (n1 := p.n1) (s1 := p.s1) (u1.below h) (u2.below h) (by omega) (by omega))
  rw [show okA p.n0 p.s0 p.l0 p.n1 p.s1 p.l1 = false from hb] at MY
  have HR := Lib.hid bR
  have HB := Lib.hid hB0
  obtain ⟨a0, a1, a2, a3, a4, a5, _, _, _, _, _, _, _⟩ := bA
  clear u1 u2 q1 q2 hb bR hB0
  go_enter Try.func17, Try.ntmps17
  go_wp2_with fail
  refine (MY.out _ HB.out).mono ?_
  rintro e w1 ⟨rfl, hc⟩
  clear a0 a1 a2 a3 a4 a5 MY
  replace HR := Lib.hid (HR.out.below hc)
  replace HB := Lib.hid (from_ HB.out hc)
  clear hc
  have HP := Lib.hid (HR.out.put HB.out (by omega) (.bool false) (.bool false) (.slice none 0 0) (.bool false) (.bool false) (.slice none 0 0))
  obtain ⟨g0, g1, g2, g3, g4, g5, f0, f1, f2, f3, f4, f5, _⟩ := id HR.out
  go_wp2
  refine bodyPost_ret (res_itv2 rfl _ (w.heap.size + 1) rfl HP.out.box) rfl ?_
  exact ⟨by first | rfl | trivial, HP.out.bel⟩
set_option maxRecDepth 100000 in
set_option maxHeartbeats 8000000 in
theorem r16check_any {w : World} {Z1 Z2 : Zone} {p : Iv} {A B : Option Addr} {a b : Nat} (u1 : U64s w Z1 A a p.l0) (u2 : U64s w Z2 B b p.l1) (q1 : p.l0.length ≤ 60) (q2 : p.l1.length ≤ 60) :
    Calls Try.prog 23 #[.agg #[.bool p.n0, .bool p.s0, .slice A p.l0.length a, .bool p.n1, .bool p.s1, .slice B p.l1.length b]] w fun e w' => e = .returned (.int .i64 (errA p.n0 p.s0 p.l0 p.n1 p.s1 p.l1)) ∧ Below w.heap.size w w' := by
  have hB0 : Below w.heap.size w (w.alloc (.cells #[.bool p.n0, .bool p.s0, .slice A p.l0.length a, .bool p.n1, .bool p.s1, .slice B p.l1.length b] 29)) := (Below.refl _ _).alloc (Nat.le_refl _) _
  obtain ⟨a0, a1, a2, a3, a4, a5, _, _, _, _, _, _, _⟩ := Box6.new w (.bool p.n0) (.bool p.s0) (.slice A p.l0.length a) (.bool p.n1) (.bool p.s1) (.slice B p.l1.length b) 29
  have MY := Lib.hid (r16may_any (n0 := p.n0) (s0 := p.s0) (n1 := p.n1) (s1 := p.s1) (u1.below hB0) (u2.below hB0) (by omega) (by omega))
  have HB := Lib.hid hB0
  unfold errA
  clear u1 u2 q1 q2 hB0
  cases h : okA p.n0 p.s0 p.l0 p.n1 p.s1 p.l1
  all_goals
    rw [h] at MY
    clear h
    go_enter Try.func23, Try.ntmps23
    go_wp2_with fail
    refine MY.out.mono ?_
    rintro e w1 ⟨rfl, hc⟩
    have HE := Lib.hid (from_ HB.out hc)
    clear hc a0 a1 a2 a3 a4 a5
    go_wp2
    go_ret
    exact ⟨by first | rfl | simp, HE.out⟩
theorem errA2_bad {p q : Iv} (hb : ¬ (p.ok = true ∧ q.ok = true)) : errA2 (okA p.n0 p.s0 p.l0 p.n1 p.s1 p.l1) (okA q.n0 q.s0 q.l0 q.n1 q.s1 q.l1) = 8 := by
  have h : ¬ (okA p.n0 p.s0 p.l0 p.n1 p.s1 p.l1 = true ∧ okA q.n0 q.s0 q.l0 q.n1 q.s1 q.l1 = true) := hb
  revert h
  cases okA p.n0 p.s0 p.l0 p.n1 p.s1 p.l1 <;> cases okA q.n0 q.s0 q.l0 q.n1 q.s1 q.l1 <;> intro h <;> first | rfl | exact absurd ⟨rfl, rfl⟩ h
set_option maxRecDepth 100000 in
set_option maxHeartbeats 8000000 in
theorem r16join_good {w : World} {Z1 Z2 Z3 Z4 : Zone} {p q : Iv} {A B C D : Option Addr} {a b c d : Nat} (u1 : U64s w Z1 A a p.l0) (u2 : U64s w Z2 B b p.l1) (u3 : U64s w Z3 C c q.l0) (u4 : U64s w Z4 D d q.l1) (q1 : p.l0.length ≤ 60) (q2 : p.l1.length ≤ 60) (q3 : q.l0.length ≤ 60) (q4 : q.l1.length ≤ 60) {r : Iv} (h1 : p.ok = true) (h2 : q.ok = true) (hr0 : EndL (min p.lo q.lo) r.n0 r.s0 r.l0) (hr1 : EndH (max p.hi q.hi) r.n1 r.s1 r.l1) :
    Calls Try.prog 12 #[.agg #[.bool p.n0, .bool p.s0, .slice A p.l0.length a, .bool p.n1, .bool p.s1, .slice B p.l1.length b], .agg #[.bool q.n0, .bool q.s0, .slice C q.l0.length c, .bool q.n1, .bool q.s1, .slice D q.l1.length d]] w fun e w' => ∃ rA ra rB rb, e = .returned (.tuple #[.agg #[.bool r.n0, .bool r.s0, .slice rA r.l0.length ra, .bool r.n1, .bool r.s1, .slice rB r.l1.length rb], .int .i64 0]) ∧ U64s w' old rA ra r.l0 ∧ U64s w' old rB rb r.l1 ∧ Below w.heap.size w w' := by
  have o1 := okA_ends h1
  have o2 := okA_ends h2
  obtain ⟨bA, bB, bR, hB0⟩ := boxX w (.bool p.n0) (.bool p.s0) (.slice A p.l0.length a) (.bool p.n1) (.bool p.s1) (.slice B p.l1.length b) (.bool q.n0) (.bool q.s0) (.slice C q.l0.length c) (.bool q.n1) (.bool q.s1) (.slice D q.l1.length d) (.bool false) (.bool false) (.slice none 0 0) (.bool false) (.bool false) (.slice none 0 0) 29
  have nR := NoU.new6 ((w.alloc (.cells #[.bool p.n0, .bool p.s0, .slice A p.l0.length a, .bool p.n1, .bool p.s1, .slice B p.l1.length b] 29)).alloc (.cells #[.bool q.n0, .bool q.s0, .slice C q.l0.length c, .bool q.n1, .bool q.s1, .slice D q.l1.length d] 29)) false false false false none none 0 0 0 0 29
  rw [World.size_alloc, World.size_alloc] at nR
  have TW := Lib.hid (fun (W : World) (h : Below w.heap.size w W) => r16two_any (w := W) (n0 := p.n0) (s0 := p.s0) (n1 := p.n1) (s1 := p.s1) (m0 := q.n0) (t0 := q.s0) (m1 := q.n1) (t1 := q.s1) (u1.below h) (u2.below h) (u3.below h) (u4.below h) q1 q2 q3 q4 h1 h2)
  have EI := Lib.hid (fun (W : World) (h : Below w.heap.size w W) => r16either_w (u1.below h) (u2.below h) (u3.below h) (u4.below h) o1.1 o1.2 o2.1 o2.2 q1 q2 q3 q4 (z0 := min p.lo q.lo) (z1 := max p.hi q.hi) rfl rfl hr0 hr1)
  have HA := Lib.hid bA
  have HBb := Lib.hid bB
  have HR := Lib.hid bR
  have HN := Lib.hid (show NoU _ (w.heap.size + 2) from nR)
  have HB := Lib.hid hB0
  obtain ⟨a0, a1, a2, a3, a4, a5, _, _, _, _, _, _, _⟩ := bA
  obtain ⟨b0, b1, b2, b3, b4, b5, _, _, _, _, _, _, _⟩ := bB
  rw [show errA2 true true = 0 by decide] at TW
  clear u1 u2 u3 u4 q1 q2 q3 q4 nR bR hB0 h1 h2 hr0 hr1 o1 o2
  go_enter Try.func12, Try.ntmps12
  go_wp2_with fail
  refine (TW.out _ HB.out).mono ?_
  rintro e w1 ⟨rfl, hc⟩
  clear a0 a1 a2 a3 a4 a5 b0 b1 b2 b3 b4 b5 TW
  replace HN := Lib.hid (HN.out.below HR.out.lt hc)
  replace HA := Lib.hid (HA.out.below hc)
  replace HBb := Lib.hid (HBb.out.below hc)
  replace HR := Lib.hid (HR.out.below hc)
  replace HB := Lib.hid (from_ HB.out hc)
  clear hc
  obtain ⟨a0, a1, a2, a3, a4, a5, _, _, _, _, _, _, _⟩ := id HA.out
  obtain ⟨b0, b1, b2, b3, b4, b5, _, _, _, _, _, _, _⟩ := id HBb.out
  go_wp2_with fail
  refine (EI.out _ HB.out).mono ?_
  rintro e w2 ⟨D1, d1, D2, d2, rfl, v1, v2, hc⟩
  replace HN := Lib.hid (HN.out.below HR.out.lt hc)
  replace HA := Lib.hid (HA.out.below hc)
  replace HBb := Lib.hid (HBb.out.below hc)
  replace HR := Lib.hid (HR.out.below hc)
  replace HB := Lib.hid (from_ HB.out hc)
  clear hc a0 a1 a2 a3 a4 a5 b0 b1 b2 b3 b4 b5
  have HP := Lib.hid (HR.out.put HB.out (show w.heap.size ≤ w.heap.size + 2 by omega) (.bool r.n0) (.bool r.s0) (.slice D1 r.l0.length d1) (.bool r.n1) (.bool r.s1) (.slice D2 r.l1.length d2))
  have U1 := Lib.hid (v1.set6n HN.out (.bool r.n0) (.bool r.s0) (.slice D1 r.l0.length d1) (.bool r.n1) (.bool r.s1) (.slice D2 r.l1.length d2))
  have U2 := Lib.hid (v2.set6n HN.out (.bool r.n0) (.bool r.s0) (.slice D1 r.l0.length d1) (.bool r.n1) (.bool r.s1) (.slice D2 r.l1.length d2))
  obtain ⟨g0, g1, g2, g3, g4, g5, f0, f1, f2, f3, f4, f5, _⟩ := id HR.out
  clear v1 v2
  go_wp2
  refine bodyPost_ret (res_itv2 rfl _ (w.heap.size + 2) rfl HP.out.box) rfl ?_
  exact ⟨_, _, _, _, rfl, U1.out, U2.out, HP.out.bel⟩

set_option maxRecDepth 100000 in
set_option maxHeartbeats 8000000 in
theorem r16join_bad {w : World} {Z1 Z2 Z3 Z4 : Zone} {p q : Iv} {A B C D : Option Addr} {a b c d : Nat} (u1 : U64s w Z1 A a p.l0) (u2 : U64s w Z2 B b p.l1) (u3 : U64s w Z3 C c q.l0) (u4 : U64s w Z4 D d q.l1) (q1 : p.l0.length ≤ 60) (q2 : p.l1.length ≤ 60) (q3 : q.l0.length ≤ 60) (q4 : q.l1.length ≤ 60) (hb : ¬ (p.ok = true ∧ q.ok = true)) :
    Calls Try.prog 12 #[.agg #[.bool p.n0, .bool p.s0, .slice A p.l0.length a, .bool p.n1, .bool p.s1, .slice B p.l1.length b], .agg #[.bool q.n0, .bool q.s0, .slice C q.l0.length c, .bool q.n1, .bool q.s1, .slice D q.l1.length d]] w fun e w' => e = .returned (.tuple #[.agg #[.bool false, .bool false, .slice none 0 0, .bool false, .bool false, .slice none 0 0], .int .i64 8]) ∧ Below w.heap.size w w' := by
  obtain ⟨bA, bB, bR, hB0⟩ := boxX w (.bool p.n0) (.bool p.s0) (.slice A p.l0.length a) (.bool p.n1) (.bool p.s1) (.slice B p.l1.length b) (.bool q.n0) (.bool q.s0) (.slice C q.l0.length c) (.bool q.n1) (.bool q.s1) (.slice D q.l1.length d) (.bool false) (.bool false) (.slice none 0 0) (.bool false) (.bool false) (.slice none 0 0) 29
  have nR := NoU.new6 ((w.alloc (.cells #[.bool p.n0, .bool p.s0, .slice A p.l0.length a, .bool p.n1, .bool p.s1, .slice B p.l1.length b] 29)).alloc (.cells #[.bool q.n0, .bool q.s0, .slice C q.l0.length c, .bool q.n1, .bool q.s1, .slice D q.l1.length d] 29)) false false false false none none 0 0 0 0 29
  rw [World.size_alloc, World.size_alloc] at nR
  have TW := Lib.hid (fun (W : World) (h : Below w.heap.size w W) => r16two_any (w := W) (n0 := p.n0) (s0 := p.s0) (n1 := p.n1) (s1 := p.s1) (m0 := q.n0) (t0 := q.s0) (m1 := q.n1) (t1 := q.s1) (u1.below h) (u2.below h) (u3.below h) (u4.below h) q1 q2 q3 q4 rfl rfl)
  have HA := Lib.hid bA
  have HBb := Lib.hid bB
  have HR := Lib.hid bR
  have HN := Lib.hid (show NoU _ (w.heap.size + 2) from nR)
  have HB := Lib.hid hB0
  obtain ⟨a0, a1, a2, a3, a4, a5, _, _, _, _, _, _, _⟩ := bA
  obtain ⟨b0, b1, b2, b3, b4, b5, _, _, _, _, _, _, _⟩ := bB
  rw [show errA2 (okA p.n0 p.s0 p.l0 p.n1 p.s1 p.l1) (okA q.n0 q.s0 q.l0 q.n1 q.s1 q.l1) = 8 from errA2_bad hb] at TW
  clear u1 u2 u3 u4 q1 q2 q3 q4 nR bR hB0 hb
  go_enter Try.func12, Try.ntmps12
  go_wp2_with fail
  refine (TW.out _ HB.out).mono ?_
  rintro e w1 ⟨rfl, hc⟩
  clear a0 a1 a2 a3 a4 a5 b0 b1 b2 b3 b4 b5 TW
  replace HN := Lib.hid (HN.out.below HR.out.lt hc)
  replace HA := Lib.hid (HA.out.below hc)
  replace HBb := Lib.hid (HBb.out.below hc)
  replace HR := Lib.hid (HR.out.below hc)
  replace HB := Lib.hid (from_ HB.out hc)
  clear hc
  have HP := Lib.hid (HR.out.put HB.out (show w.heap.size ≤ w.heap.size + 2 by omega) (.bool false) (.bool false) (.slice none 0 0) (.bool false) (.bool false) (.slice none 0 0))
  obtain ⟨g0, g1, g2, g3, g4, g5, f0, f1, f2, f3, f4, f5, _⟩ := id HR.out
  go_wp2
  refine bodyPost_ret (res_itv2 rfl _ (w.heap.size + 2) rfl HP.out.box) rfl ?_
  exact ⟨by first | rfl | trivial, HP.out.bel⟩
set_option maxRecDepth 100000 in
set_option maxHeartbeats 8000000 in
theorem r16meet_good {w : World} {Z1 Z2 Z3 Z4 : Zone} {p q : Iv} {A B C D : Option Addr} {a b c d : Nat} (u1 : U64s w Z1 A a p.l0) (u2 : U64s w Z2 B b p.l1) (u3 : U64s w Z3 C c q.l0) (u4 : U64s w Z4 D d q.l1) (q1 : p.l0.length ≤ 60) (q2 : p.l1.length ≤ 60) (q3 : q.l0.length ≤ 60) (q4 : q.l1.length ≤ 60) {r : Iv} (h1 : p.ok = true) (h2 : q.ok = true) (hr0 : EndL (max p.lo q.lo) r.n0 r.s0 r.l0) (hr1 : EndH (min p.hi q.hi) r.n1 r.s1 r.l1) (hg : r.ok = true) :
    Calls Try.prog 11 #[.agg #[.bool p.n0, .bool p.s0, .slice A p.l0.length a, .bool p.n1, .bool p.s1, .slice B p.l1.length b], .agg #[.bool q.n0, .bool q.s0, .slice C q.l0.length c, .bool q.n1, .bool q.s1, .slice D q.l1.length d]] w fun e w' => ∃ rA ra rB rb, e = .returned (.tuple #[.agg #[.bool r.n0, .bool r.s0, .slice rA r.l0.length ra, .bool r.n1, .bool r.s1, .slice rB r.l1.length rb], .int .i64 0]) ∧ U64s w' old rA ra r.l0 ∧ U64s w' old rB rb r.l1 ∧ Below w.heap.size w w' := by
  have o1 := okA_ends h1
  have o2 := okA_ends h2
  obtain ⟨bA, bB, bR, hB0⟩ := boxX w (.bool p.n0) (.bool p.s0) (.slice A p.l0.length a) (.bool p.n1) (.bool p.s1) (.slice B p.l1.length b) (.bool q.n0) (.bool q.s0) (.slice C q.l0.length c) (.bool q.n1) (.bool q.s1) (.slice D q.l1.length d) (.bool false) (.bool false) (.slice none 0 0) (.bool false) (.bool false) (.slice none 0 0) 29
  have nR := NoU.new6 ((w.alloc (.cells #[.bool p.n0, .bool p.s0, .slice A p.l0.length a, .bool p.n1, .bool p.s1, .slice B p.l1.length b] 29)).alloc (.cells #[.bool q.n0, .bool q.s0, .slice C q.l0.length c, .bool q.n1, .bool q.s1, .slice D q.l1.length d] 29)) false false false false none none 0 0 0 0 29
  rw [World.size_alloc, World.size_alloc] at nR
  have TW := Lib.hid (fun (W : World) (h : Below w.heap.size w W) => r16two_any (w := W) (n0 := p.n0) (s0 := p.s0) (n1 := p.n1) (s1 := p.s1) (m0 := q.n0) (t0 := q.s0) (m1 := q.n1) (t1 := q.s1) (u1.below h) (u2.below h) (u3.below h) (u4.below h) q1 q2 q3 q4 h1 h2)
  have EI := Lib.hid (fun (W : World) (h : Below w.heap.size w W) => r16both_w (u1.below h) (u2.below h) (u3.below h) (u4.below h) o1.1 o1.2 o2.1 o2.2 q1 q2 q3 q4 (z0 := max p.lo q.lo) (z1 := min p.hi q.hi) rfl rfl hr0 hr1 (g := true) hg)
  have HA := Lib.hid bA
  have HBb := Lib.hid bB
  have HR := Lib.hid bR
  have HN := Lib.hid (show NoU _ (w.heap.size + 2) from nR)
  have HB := Lib.hid hB0
  obtain ⟨a0, a1, a2, a3, a4, a5, _, _, _, _, _, _, _⟩ := bA
  obtain ⟨b0, b1, b2, b3, b4, b5, _, _, _, _, _, _, _⟩ := bB
  rw [show errA2 true true = 0 by decide] at TW
  simp only [cond_true] at EI
  clear u1 u2 u3 u4 q1 q2 q3 q4 nR bR hB0 h1 h2 hr0 hr1 o1 o2 hg
  go_enter Try.func11, Try.ntmps11
  go_wp2_with fail
  refine (TW.out _ HB.out).mono ?_
  rintro e w1 ⟨rfl, hc⟩
  clear a0 a1 a2 a3 a4 a5 b0 b1 b2 b3 b4 b5 TW
  replace HN := Lib.hid (HN.out.below HR.out.lt hc)
  replace HA := Lib.hid (HA.out.below hc)
  replace HBb := Lib.hid (HBb.out.below hc)
  replace HR := Lib.hid (HR.out.below hc)
  replace HB := Lib.hid (from_ HB.out hc)
  clear hc
  obtain ⟨a0, a1, a2, a3, a4, a5, _, _, _, _, _, _, _⟩ := id HA.out
  obtain ⟨b0, b1, b2, b3, b4, b5, _, _, _, _, _, _, _⟩ := id HBb.out
  go_wp2_with fail
  refine (EI.out _ HB.out).mono ?_
  rintro e w2 ⟨D1, d1, D2, d2, rfl, v1, v2, hc⟩
  clear a0 a1 a2 a3 a4 a5 b0 b1 b2 b3 b4 b5
  go_upto_region 5 with fail
  have hax : Below w2.heap.size w2 (w2.alloc (.cells #[.bool r.n0, .bool r.s0, .slice D1 r.l0.length d1, .bool r.n1, .bool r.s1, .slice D2 r.l1.length d2] 29)) := (Below.refl _ _).alloc (Nat.le_refl _) _
  have BO := Lib.hid (Box6.new w2 (.bool r.n0) (.bool r.s0) (.slice D1 r.l0.length d1) (.bool r.n1) (.bool r.s1) (.slice D2 r.l1.length d2) 29)
  have hlt := HR.out.lt
  have hcs := hc.size
  obtain ⟨gO, hgO⟩ : ∃ g, g = w2.heap.size := ⟨_, rfl⟩
  rw [← hgO] at BO
  have hc8 := from_ hc hax
  replace HN := Lib.hid (HN.out.below HR.out.lt hc8)
  replace HR := Lib.hid (HR.out.below hc8)
  replace HB := Lib.hid (from_ HB.out hc8)
  replace v1 := v1.below hax
  replace v2 := v2.below hax
  clear hc hc8 hax
  generalize hWx : w2.alloc (.cells #[.bool r.n0, .bool r.s0, .slice D1 r.l0.length d1, .bool r.n1, .bool r.s1, .slice D2 r.l1.length d2] 29) = W2 at *
  try simp only [← hgO]
  have n1 : ¬ gO = w.heap.size + 2 := by omega
  have n2 : ¬ w.heap.size + 2 = gO := by omega
  clear hWx hgO hlt hcs HA HBb
  have HP := Lib.hid (HR.out.put HB.out (show w.heap.size ≤ w.heap.size + 2 by omega) (.bool r.n0) (.bool r.s0) (.slice D1 r.l0.length d1) (.bool r.n1) (.bool r.s1) (.slice D2 r.l1.length d2))
  have U1 := Lib.hid (v1.set6n HN.out (.bool r.n0) (.bool r.s0) (.slice D1 r.l0.length d1) (.bool r.n1) (.bool r.s1) (.slice D2 r.l1.length d2))
  have U2 := Lib.hid (v2.set6n HN.out (.bool r.n0) (.bool r.s0) (.slice D1 r.l0.length d1) (.bool r.n1) (.bool r.s1) (.slice D2 r.l1.length d2))
  obtain ⟨g0, g1, g2, g3, g4, g5, f0, f1, f2, f3, f4, f5, _⟩ := id HR.out
  obtain ⟨y0, y1, y2, y3, y4, y5, _, _, _, _, _, _, _⟩ := id BO.out
  clear v1 v2
  go_wp2
  refine bodyPost_ret (res_itv2 rfl _ (w.heap.size + 2) rfl HP.out.box) rfl ?_
  exact ⟨_, _, _, _, rfl, U1.out, U2.out, HP.out.bel⟩

set_option maxRecDepth 100000 in
set_option maxHeartbeats 8000000 in
theorem r16meet_none {w : World} {Z1 Z2 Z3 Z4 : Zone} {p q : Iv} {A B C D : Option Addr} {a b c d : Nat} (u1 : U64s w Z1 A a p.l0) (u2 : U64s w Z2 B b p.l1) (u3 : U64s w Z3 C c q.l0) (u4 : U64s w Z4 D d q.l1) (q1 : p.l0.length ≤ 60) (q2 : p.l1.length ≤ 60) (q3 : q.l0.length ≤ 60) (q4 : q.l1.length ≤ 60) {r : Iv} (h1 : p.ok = true) (h2 : q.ok = true) (hr0 : EndL (max p.lo q.lo) r.n0 r.s0 r.l0) (hr1 : EndH (min p.hi q.hi) r.n1 r.s1 r.l1) (hg : r.ok = false) :
    Calls Try.prog 11 #[.agg #[.bool p.n0, .bool p.s0, .slice A p.l0.length a, .bool p.n1, .bool p.s1, .slice B p.l1.length b], .agg #[.bool q.n0, .bool q.s0, .slice C q.l0.length c, .bool q.n1, .bool q.s1, .slice D q.l1.length d]] w fun e w' => e = .returned (.tuple #[.agg #[.bool false, .bool false, .slice none 0 0, .bool false, .bool false, .slice none 0 0], .int .i64 6]) ∧ Below w.heap.size w w' := by
  have o1 := okA_ends h1
  have o2 := okA_ends h2
  obtain ⟨bA, bB, bR, hB0⟩ := boxX w (.bool p.n0) (.bool p.s0) (.slice A p.l0.length a) (.bool p.n1) (.bool p.s1) (.slice B p.l1.length b) (.bool q.n0) (.bool q.s0) (.slice C q.l0.length c) (.bool q.n1) (.bool q.s1) (.slice D q.l1.length d) (.bool false) (.bool false) (.slice none 0 0) (.bool false) (.bool false) (.slice none 0 0) 29
  have nR := NoU.new6 ((w.alloc (.cells #[.bool p.n0, .bool p.s0, .slice A p.l0.length a, .bool p.n1, .bool p.s1, .slice B p.l1.length b] 29)).alloc (.cells #[.bool q.n0, .bool q.s0, .slice C q.l0.length c, .bool q.n1, .bool q.s1, .slice D q.l1.length d] 29)) false false false false none none 0 0 0 0 29
  rw [World.size_alloc, World.size_alloc] at nR
  have TW := Lib.hid (fun (W : World) (h : Below w.heap.size w W) => r16two_any (w := W) (n0 := p.n0) (s0 := p.s0) (n1 := p.n1) (s1 := p.s1) (m0 := q.n0) (t0 := q.s0) (m1 := q.n1) (t1 := q.s1) (u1.below h) (u2.below h) (u3.below h) (u4.below h) q1 q2 q3 q4 h1 h2)
  have EI := Lib.hid (fun (W : World) (h : Below w.heap.size w W) => r16both_w (u1.below h) (u2.below h) (u3.below h) (u4.below h) o1.1 o1.2 o2.1 o2.2 q1 q2 q3 q4 (z0 := max p.lo q.lo) (z1 := min p.hi q.hi) rfl rfl hr0 hr1 (g := false) hg)
  have HA := Lib.hid bA
  have HBb := Lib.hid bB
  have HR := Lib.hid bR
  have HN := Lib.hid (show NoU _ (w.heap.size + 2) from nR)
  have HB := Lib.hid hB0
  obtain ⟨a0, a1, a2, a3, a4, a5, _, _, _, _, _, _, _⟩ := bA
  obtain ⟨b0, b1, b2, b3, b4, b5, _, _, _, _, _, _, _⟩ := bB
  rw [show errA2 true true = 0 by decide] at TW
  simp only [cond_false] at EI
  clear u1 u2 u3 u4 q1 q2 q3 q4 nR bR hB0 h1 h2 hr0 hr1 o1 o2 hg
  go_enter Try.func11, Try.ntmps11
  go_wp2_with fail
  refine (TW.out _ HB.out).mono ?_
  rintro e w1 ⟨rfl, hc⟩
  clear a0 a1 a2 a3 a4 a5 b0 b1 b2 b3 b4 b5 TW
  replace HN := Lib.hid (HN.out.below HR.out.lt hc)
  replace HA := Lib.hid (HA.out.below hc)
  replace HBb := Lib.hid (HBb.out.below hc)
  replace HR := Lib.hid (HR.out.below hc)
  replace HB := Lib.hid (from_ HB.out hc)
  clear hc
  obtain ⟨a0, a1, a2, a3, a4, a5, _, _, _, _, _, _, _⟩ := id HA.out
  obtain ⟨b0, b1, b2, b3, b4, b5, _, _, _, _, _, _, _⟩ := id HBb.out
  go_wp2_with fail
  refine (EI.out _ HB.out).mono ?_
  rintro e w2 ⟨D1, d1, D2, d2, rfl, v1, v2, hc⟩
  clear a0 a1 a2 a3 a4 a5 b0 b1 b2 b3 b4 b5 v1 v2
  go_upto_region 5 with fail
  have hax : Below w2.heap.size w2 (w2.alloc (.cells #[.bool false, .bool false, .slice none 0 0, .bool false, .bool false, .slice none 0 0] 29)) := (Below.refl _ _).alloc (Nat.le_refl _) _
  have hc8 := from_ hc hax
  replace HR := Lib.hid (HR.out.below hc8)
  replace HB := Lib.hid (from_ HB.out hc8)
  clear hc hc8 hax HA HBb HN
  generalize hWx : w2.alloc (.cells #[.bool false, .bool false, .slice none 0 0, .bool false, .bool false, .slice none 0 0] 29) = W2 at *
  clear hWx
  have HP := Lib.hid (HR.out.put HB.out (show w.heap.size ≤ w.heap.size + 2 by omega) (.bool false) (.bool false) (.slice none 0 0) (.bool false) (.bool false) (.slice none 0 0))
  obtain ⟨g0, g1, g2, g3, g4, g5, f0, f1, f2, f3, f4, f5, _⟩ := id HR.out
  go_wp2
  refine bodyPost_ret (res_itv2 rfl _ (w.heap.size + 2) rfl HP.out.box) rfl ?_
  exact ⟨by first | rfl | trivial, HP.out.bel⟩

set_option maxRecDepth 100000 in
set_option maxHeartbeats 8000000 in
theorem r16meet_bad {w : World} {Z1 Z2 Z3 Z4 : Zone} {p q : Iv} {A B C D : Option Addr} {a b c d : Nat} (u1 : U64s w Z1 A a p.l0) (u2 : U64s w Z2 B b p.l1) (u3 : U64s w Z3 C c q.l0) (u4 : U64s w Z4 D d q.l1) (q1 : p.l0.length ≤ 60) (q2 : p.l1.length ≤ 60) (q3 : q.l0.length ≤ 60) (q4 : q.l1.length ≤ 60) (hb : ¬ (p.ok = true ∧ q.ok = true)) :
    Calls Try.prog 11 #[.agg #[.bool p.n0, .bool p.s0, .slice A p.l0.length a, .bool p.n1, .bool p.s1, .slice B p.l1.length b], .agg #[.bool q.n0, .bool q.s0, .slice C q.l0.length c, .bool q.n1, .bool q.s1, .slice D q.l1.length d]] w fun e w' => e = .returned (.tuple #[.agg #[.bool false, .bool false, .slice none 0 0, .bool false, .bool false, .slice none 0 0], .int .i64 8]) ∧ Below w.heap.size w w' := by
  obtain ⟨bA, bB, bR, hB0⟩ := boxX w (.bool p.n0) (.bool p.s0) (.slice A p.l0.length a) (.bool p.n1) (.bool p.s1) (.slice B p.l1.length b) (.bool q.n0) (.bool q.s0) (.slice C q.l0.length c) (.bool q.n1) (.bool q.s1) (.slice D q.l1.length d) (.bool false) (.bool false) (.slice none 0 0) (.bool false) (.bool false) (.slice none 0 0) 29
  have nR := NoU.new6 ((w.alloc (.cells #[.bool p.n0, .bool p.s0, .slice A p.l0.length a, .bool p.n1, .bool p.s1, .slice B p.l1.length b] 29)).alloc (.cells #[.bool q.n0, .bool q.s0, .slice C q.l0.length c, .bool q.n1, .bool q.s1, .slice D q.l1.length d] 29)) false false false false none none 0 0 0 0 29
  rw [World.size_alloc, World.size_alloc] at nR
  have TW := Lib.hid (fun (W : World) (h : Below w.heap.size w W) => r16two_any (w := W) (n0 := p.n0) (s0 := p.s0) (n1 := p.n1) (s1 := p.s1) (m0 := q.n0) (t0 := q.s0) (m1 := q.n1) (t1 := q.s1) (u1.below h) (u2.below h) (u3.below h) (u4.below h) q1 q2 q3 q4 rfl rfl)
  have HA := Lib.hid bA
  have HBb := Lib.hid bB
  have HR := Lib.hid bR
  have HN := Lib.hid (show NoU _ (w.heap.size + 2) from nR)
  have HB := Lib.hid hB0
  obtain ⟨a0, a1, a2, a3, a4, a5, _, _, _, _, _, _, _⟩ := bA
  obtain ⟨b0, b1, b2, b3, b4, b5, _, _, _, _, _, _, _⟩ := bB
  rw [show errA2 (okA p.n0 p.s0 p.l0 p.n1 p.s1 p.l1) (okA q.n0 q.s0 q.l0 q.n1 q.s1 q.l1) = 8 from errA2_bad hb] at TW
  clear u1 u2 u3 u4 q1 q2 q3 q4 nR bR hB0 hb
  go_enter Try.func11, Try.ntmps11
  go_wp2_with fail
  refine (TW.out _ HB.out).mono ?_
  rintro e w1 ⟨rfl, hc⟩
  clear a0 a1 a2 a3 a4 a5 b0 b1 b2 b3 b4 b5 TW
  replace HN := Lib.hid (HN.out.below HR.out.lt hc)
  replace HA := Lib.hid (HA.out.below hc)
  replace HBb := Lib.hid (HBb.out.below hc)
  replace HR := Lib.hid (HR.out.below hc)
  replace HB := Lib.hid (from_ HB.out hc)
  clear hc
  have HP := Lib.hid (HR.out.put HB.out (show w.heap.size ≤ w.heap.size + 2 by omega) (.bool false) (.bool false) (.slice none 0 0) (.bool false) (.bool false) (.slice none 0 0))
  obtain ⟨g0, g1, g2, g3, g4, g5, f0, f1, f2, f3, f4, f5, _⟩ := id HR.out
  go_wp2
  refine bodyPost_ret (res_itv2 rfl _ (w.heap.size + 2) rfl HP.out.box) rfl ?_
  exact ⟨by first | rfl | trivial, HP.out.bel⟩
theorem r05of_p {w : World} {n : Int} {s : Bool} {l : List Nat} (h : Nm n s l) (hn : -9223372036854775808 ≤ n ∧ n ≤ 9223372036854775807) :
    Calls Try.prog 54 #[.int .i64 n] w fun e w' => ∃ A c, e = .returned (.agg #[.bool s, .slice A l.length c]) ∧ U64s w' (new w.heap.size) A c l ∧ Below w.heap.size w w' := by
  refine (r05of_any hn).mono ?_
  rintro e w' ⟨v, rfl, hv, hb⟩
  obtain ⟨A, c, rfl, hu⟩ := h.of hv
  exact ⟨A, c, rfl, hu, hb⟩
set_option maxRecDepth 100000 in
set_option maxHeartbeats 8000000 in
theorem r16of_good {w : World} {x y : Int} {s t : Bool} {l k : List Nat} (hx : -9223372036854775808 ≤ x ∧ x ≤ 9223372036854775807) (hy : -9223372036854775808 ≤ y ∧ y ≤ 9223372036854775807) (h : x ≤ y) (n : Nm x s l) (m : Nm y t k) (hl : l.length ≤ 1000) (hk : k.length ≤ 1000) :
    Calls Try.prog 19 #[.int .i64 x, .int .i64 y] w fun e w' => ∃ A1 c1 A2 c2, e = .returned (.tuple #[.agg #[.bool false, .bool s, .slice A1 l.length c1, .bool false, .bool t, .slice A2 k.length c2], .int .i64 0]) ∧ U64s w' (new w.heap.size) A1 c1 l ∧ U64s w' (new w.heap.size) A2 c2 k ∧ Below w.heap.size w w' := by
  have hd : decide (y < x) = false := decide_eq_false (by omega)
  have HB := Lib.hid ((Below.refl _ w).alloc (Nat.le_refl _) (.cells #[.bool false, .bool false, .slice none 0 0, .bool false, .bool false, .slice none 0 0] 29))
  have HR := Lib.hid (Box6.new w (.bool false) (.bool false) (.slice none 0 0) (.bool false) (.bool false) (.slice none 0 0) 29)
  have C1 := Lib.hid (fun (W : World) => r05of_p (w := W) n hx)
  have C2 := Lib.hid (fun (W : World) => r05of_p (w := W) m hy)
  have BT := Lib.hid (fun (W : World) (Z1 Z2 : Zone) (A B : Option Addr) (c d : Nat) (u : U64s W Z1 A c l) (v : U64s W Z2 B d k) => r16between_w n m hl hk u v)
  clear n m hx hy h hl hk
  go_enter Try.func19, Try.ntmps19
  go_wp2_with fail
  refine (C1.out _).mono ?_
  rintro e w1 ⟨A1, c1, rfl, u1, hc⟩
  replace HR := Lib.hid (HR.out.below hc)
  replace HB := Lib.hid (from_ HB.out hc)
  clear hc
  go_wp2_with fail
  refine (C2.out _).mono ?_
  rintro e w2 ⟨A2, c2, rfl, u2, hc⟩
  replace u1 := u1.below hc
  replace HR := Lib.hid (HR.out.below hc)
  replace HB := Lib.hid (from_ HB.out hc)
  clear hc
  go_wp2_with fail
  refine (BT.out _ _ _ _ _ _ _ u1 u2).mono ?_
  rintro e w3 ⟨E1, e1, E2, e2, rfl, v1, v2, hc⟩
  have hlt := HR.out.lt
  have hs := HB.out.size
  replace HR := Lib.hid (HR.out.below hc)
  replace HB := Lib.hid (from_ HB.out hc)
  have HP := Lib.hid (HR.out.put (w := w) HB.out (Nat.le_refl _) (.bool false) (.bool s) (.slice E1 l.length e1) (.bool false) (.bool t) (.slice E2 k.length e2))
  have U1 := Lib.hid ((v1.set6 (g := w.heap.size) (fun (h : _ ≤ w.heap.size) => by omega) (.bool false) (.bool s) (.slice E1 l.length e1) (.bool false) (.bool t) (.slice E2 k.length e2)).mono (new_le hs))
  have U2 := Lib.hid ((v2.set6 (g := w.heap.size) (fun (h : _ ≤ w.heap.size) => by omega) (.bool false) (.bool s) (.slice E1 l.length e1) (.bool false) (.bool t) (.slice E2 k.length e2)).mono (new_le hs))
  obtain ⟨g0, g1, g2, g3, g4, g5, f0, f1, f2, f3, f4, f5, _⟩ := id HR.out
  clear u1 u2 v1 v2 hc hlt hs
  go_wp2
  refine bodyPost_ret (res_itv2 rfl _ w.heap.size rfl HP.out.box) rfl ?_
  exact ⟨_, _, _, _, rfl, U1.out, U2.out, HP.out.bel⟩
set_option maxRecDepth 100000 in
set_option maxHeartbeats 8000000 in
theorem r16of_bad {w : World} {x y : Int} (h : y < x) :
    Calls Try.prog 19 #[.int .i64 x, .int .i64 y] w fun e w' => e = .returned (.tuple #[.agg #[.bool false, .bool false, .slice none 0 0, .bool false, .bool false, .slice none 0 0], .int .i64 2]) ∧ Below w.heap.size w w' := by
  have hd : decide (y < x) = true := decide_eq_true h
  have hb0 := Lib.hid ((Below.refl _ w).alloc (Nat.le_refl _) (.cells #[.bool false, .bool false, .slice none 0 0, .bool false, .bool false, .slice none 0 0] 29))
  have hB := Lib.hid (Box6.new w (.bool false) (.bool false) (.slice none 0 0) (.bool false) (.bool false) (.slice none 0 0) 29)
  clear h
  go_enter Try.func19, Try.ntmps19
  go_wp2
  refine bodyPost_ret (res_itv2 rfl _ w.heap.size rfl hB.out) rfl ?_
  exact ⟨by first | rfl | trivial, hb0.out⟩
set_option maxRecDepth 100000 in
set_option maxHeartbeats 8000000 in
theorem r16point_good {w : World} {Z : Zone} {x : Int} {s : Bool} {l : List Nat} {A : Option Addr} {c : Nat} (n : Nm x s l) (hok : okI s l = true) (hl : l.length ≤ 1000) (u : U64s w Z A c l) :
    Calls Try.prog 21 #[.agg #[.bool s, .slice A l.length c]] w fun e w' => ∃ A1 c1 A2 c2, e = .returned (.tuple #[.agg #[.bool false, .bool s, .slice A1 l.length c1, .bool false, .bool s, .slice A2 l.length c2], .int .i64 0]) ∧ U64s w' (new w.heap.size) A1 c1 l ∧ U64s w' (new w.heap.size) A2 c2 l ∧ Below w.heap.size w w' := by
  obtain ⟨bA, bR, hB0⟩ := boxV w (.bool s) (.slice A l.length c) (.bool false) (.bool false) (.slice none 0 0) (.bool false) (.bool false) (.slice none 0 0) 25 29
  have MY := Lib.hid (r5may_any (a := .agg #[.bool s, .slice A l.length c]) ⟨_, rfl, A, c, rfl, u.below hB0⟩)
  rw [hok] at MY
  have BT := Lib.hid (fun (W : World) (h : Below w.heap.size w W) => r16between_w n n hl hl (u.below h) (u.below h))
  have HA := Lib.hid bA
  have HR := Lib.hid bR
  have HB := Lib.hid hB0
  obtain ⟨a0, a1, _, _, _⟩ := bA
  clear u n hok hl bR hB0
  go_enter Try.func21, Try.ntmps21
  go_wp2_with fail
  refine MY.out.mono ?_
  rintro e w1 ⟨rfl, hc⟩
  clear a0 a1 MY
  replace HA := Lib.hid (HA.out.below hc)
  replace HR := Lib.hid (HR.out.below hc)
  replace HB := Lib.hid (from_ HB.out hc)
  clear hc
  obtain ⟨a0, a1, _, _, _⟩ := id HA.out
  go_wp2_with fail
  refine (BT.out _ HB.out).mono ?_
  rintro e w3 ⟨E1, e1, E2, e2, rfl, v1, v2, hc⟩
  have hlt := HR.out.lt
  have hs := HB.out.size
  replace HR := Lib.hid (HR.out.below hc)
  replace HB := Lib.hid (from_ HB.out hc)
  have HP := Lib.hid (HR.out.put (w := w) HB.out (by omega) (.bool false) (.bool s) (.slice E1 l.length e1) (.bool false) (.bool s) (.slice E2 l.length e2))
  have U1 := Lib.hid ((v1.set6 (g := w.heap.size + 1) (fun (h : _ ≤ w.heap.size + 1) => by omega) (.bool false) (.bool s) (.slice E1 l.length e1) (.bool false) (.bool s) (.slice E2 l.length e2)).mono (new_le hs))
  have U2 := Lib.hid ((v2.set6 (g := w.heap.size + 1) (fun (h : _ ≤ w.heap.size + 1) => by omega) (.bool false) (.bool s) (.slice E1 l.length e1) (.bool false) (.bool s) (.slice E2 l.length e2)).mono (new_le hs))
  obtain ⟨g0, g1, g2, g3, g4, g5, f0, f1, f2, f3, f4, f5, _⟩ := id HR.out
  clear v1 v2 hc hlt hs a0 a1
  go_wp2
  refine bodyPost_ret (res_itv2 rfl _ (w.heap.size + 1) rfl HP.out.box) rfl ?_
  exact ⟨_, _, _, _, rfl, U1.out, U2.out, HP.out.bel⟩
set_option maxRecDepth 100000 in
set_option maxHeartbeats 8000000 in
theorem r16point_bad {w : World} {Z : Zone} {s : Bool} {l : List Nat} {A : Option Addr} {c : Nat} (hok : okI s l = false) (u : U64s w Z A c l) :
    Calls Try.prog 21 #[.agg #[.bool s, .slice A l.length c]] w fun e w' => e = .returned (.tuple #[.agg #[.bool false, .bool false, .slice none 0 0, .bool false, .bool false, .slice none 0 0], .int .i64 8]) ∧ Below w.heap.size w w' := by
  obtain ⟨bA, bR, hB0⟩ := boxV w (.bool s) (.slice A l.length c) (.bool false) (.bool false) (.slice none 0 0) (.bool false) (.bool false) (.slice none 0 0) 25 29
  have MY := Lib.hid (r5may_any (a := .agg #[.bool s, .slice A l.length c]) ⟨_, rfl, A, c, rfl, u.below hB0⟩)
  rw [hok] at MY
  have HR := Lib.hid bR
  have HB := Lib.hid hB0
  obtain ⟨a0, a1, _, _, _⟩ := bA
  clear u hok bR hB0
  go_enter Try.func21, Try.ntmps21
  go_wp2_with fail
  refine MY.out.mono ?_
  rintro e w1 ⟨rfl, hc⟩
  clear a0 a1 MY
  replace HR := Lib.hid (HR.out.below hc)
  replace HB := Lib.hid (from_ HB.out hc)
  clear hc
  have HP := Lib.hid (HR.out.put HB.out (by omega) (.bool false) (.bool false) (.slice none 0 0) (.bool false) (.bool false) (.slice none 0 0))
  obtain ⟨g0, g1, g2, g3, g4, g5, f0, f1, f2, f3, f4, f5, _⟩ := id HR.out
  go_wp2
  refine bodyPost_ret (res_itv2 rfl _ (w.heap.size + 1) rfl HP.out.box) rfl ?_
  exact ⟨by first | rfl | trivial, HP.out.bel⟩

end Go.Proofs.Ytennphechbngcaa
