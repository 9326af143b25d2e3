/-
  Intervals: the answers of lesser ones lie in those of greater ones, plain. No conditions.
  Intervals, the program's: Mod by 0, Shr by nothing that may be; In, Meet by their ends' numbers. No conditions but bounds on lengths.
  facetroomlaw16.ItvSound, walked: the ways that say nothing. No conditions.
  facetroomlaw16.ItvSound, walked: the good ways. No conditions.
-/
import Derived.Test.YtennphechbngcaaGreatLItwU
import Derived.Test.YtennphechbngcaaGreatLLinP
import Derived.Test.YtennphechbngcaaGreatLFrameI
import Derived.Test.YtennphechbngcaaGreatLItwN
namespace Go.Proofs.YtennphechbngcaaGreat
open Go.RowKit
set_option linter.unusedVariables false
set_option linter.unusedSimpArgs false

/-- One lies in another one. -/
def subI (p q : IvP) : Prop := q.1 ≤ p.1 ∧ p.2 ≤ q.2
theorem ivM_sub {L P R : IvP} (hL : IvN 32 L.1 L.2) (hP : IvN 32 P.1 P.2) (hR : IvN 32 R.1 R.2) (s : subI L P) : subI (ivM L R) (ivM P R) := by
  have hM : wN 32 * wN 32 ≤ bigZ := by rw [wN_mul]; exact Int.le_refl _
  have k := fun a b (ea : Ext bigZ (wN 32) a) (eb : Ext bigZ (wN 32) b) h1 h2 h3 h4 => timesE_in (x0 := P.1) (x := a) (x1 := P.2) (y0 := R.1) (y := b) (y1 := R.2) bigZ_pos hM (wN_le (by omega)) hP.lo ea hP.hi hR.lo eb hR.hi h1 h2 h3 h4
  have hl := hL.le
  have hr := hR.le
  obtain ⟨s1, s2⟩ := s
  have c1 := k L.1 R.1 hL.lo hR.lo (by omega) (by omega) (by omega) (by omega)
  have c2 := k L.1 R.2 hL.lo hR.hi (by omega) (by omega) (by omega) (by omega)
  have c3 := k L.2 R.1 hL.hi hR.lo (by omega) (by omega) (by omega) (by omega)
  have c4 := k L.2 R.2 hL.hi hR.hi (by omega) (by omega) (by omega) (by omega)
  unfold subI ivM mulLo mulHi
  dsimp only
  revert c1 c2 c3 c4
  generalize lo4 (timesE bigZ P.1 R.1) (timesE bigZ P.1 R.2) (timesE bigZ P.2 R.1) (timesE bigZ P.2 R.2) = u
  generalize hi4 (timesE bigZ P.1 R.1) (timesE bigZ P.1 R.2) (timesE bigZ P.2 R.1) (timesE bigZ P.2 R.2) = v
  unfold lo4 hi4
  omega
theorem ivD1_sub {L P R : IvP} (hL : IvN 60 L.1 L.2) (hP : IvN 60 P.1 P.2) (hR : IvN 60 R.1 R.2) (h0 : 0 < R.1 ∨ R.2 < 0) (s : subI L P) : subI (ivD1 L R) (ivD1 P R) := by
  have q := wN_le (show 60 ≤ 64 by omega)
  have k := fun a b (ea : Ext bigZ (wN 60) a) (eb : Ext bigZ (wN 60) b) h1 h2 h3 h4 => overE_in (x0 := P.1) (x := a) (x1 := P.2) (y0 := R.1) (y := b) (y1 := R.2) bigZ_pos q hP.lo ea hP.hi hR.lo eb hR.hi h1 h2 h3 h4 h0
  have hl := hL.le
  have hr := hR.le
  obtain ⟨s1, s2⟩ := s
  have c1 := k L.1 R.1 hL.lo hR.lo (by omega) (by omega) (by omega) (by omega)
  have c2 := k L.1 R.2 hL.lo hR.hi (by omega) (by omega) (by omega) (by omega)
  have c3 := k L.2 R.1 hL.hi hR.lo (by omega) (by omega) (by omega) (by omega)
  have c4 := k L.2 R.2 hL.hi hR.hi (by omega) (by omega) (by omega) (by omega)
  unfold subI ivD1 divLo divHi
  dsimp only
  revert c1 c2 c3 c4
  generalize lo4 (overE bigZ P.1 R.1) (overE bigZ P.1 R.2) (overE bigZ P.2 R.1) (overE bigZ P.2 R.2) = u
  generalize hi4 (overE bigZ P.1 R.1) (overE bigZ P.1 R.2) (overE bigZ P.2 R.1) (overE bigZ P.2 R.2) = v
  unfold lo4 hi4
  omega
theorem ivJ_sub {p q r t : IvP} (h : subI p q) (g : subI r t) : subI (ivJ p r) (ivJ q t) := by
  unfold subI ivJ at *
  dsimp only
  omega
theorem fold_sub {L P : IvP} : ∀ (t : List IvP) (o u : IvP), (∀ r ∈ t, subI (ivD1 L r) (ivD1 P r)) → subI o u → subI (t.foldl (fun o q => ivJ o (ivD1 L q)) o) (t.foldl (fun o q => ivJ o (ivD1 P q)) u) := by
  intro t
  induction t with
  | nil => intro o u _ h; exact h
  | cons r t ih => intro o u h1 h; exact ih _ _ (fun x hx => h1 x (List.mem_cons_of_mem _ hx)) (ivJ_sub h (h1 r List.mem_cons_self))
theorem ivD_sub {L P R : IvP} (hL : IvN 60 L.1 L.2) (hP : IvN 60 P.1 P.2) (hR : IvN 60 R.1 R.2) (s : subI L P) : subI (ivD L R) (ivD P R) := by
  have hok := parts_ok hR (by omega)
  unfold ivD
  cases e : partsP R with
  | nil => exact ⟨Int.le_refl _, Int.le_refl _⟩
  | cons q t =>
    rw [e] at hok
    exact fold_sub t _ _ (fun r hr => ivD1_sub hL hP (hok r (List.mem_cons_of_mem _ hr)).1 (hok r (List.mem_cons_of_mem _ hr)).2 s) (ivD1_sub hL hP (hok q List.mem_cons_self).1 (hok q List.mem_cons_self).2 s)
theorem modP_sub {L P R : IvP} (hL : IvN 60 L.1 L.2) (hP : IvN 60 P.1 P.2) (hR : IvN 60 R.1 R.2) (h0 : ¬ (R.1 = 0 ∧ R.2 = 0)) (s : subI L P) : subI (modP L R) (modP P R) := by
  have hm := (modM_ok hR h0 (by omega)).2.1
  have hl := hL.le
  have hp := hP.le
  unfold subI modP at *
  generalize modM R = M at *
  by_cases h1 : P.2 ≤ 0 <;> by_cases h2 : 0 ≤ P.1 <;> by_cases h3 : L.2 ≤ 0 <;> by_cases h4 : 0 ≤ L.1 <;> simp only [h1, h2, h3, h4, if_true, if_false] <;> omega
theorem plusE_sub {N : Nat} {x y z : Int} (hx : Ext bigZ (wN N) x) (hy : Ext bigZ (wN N) y) (hz : Ext bigZ (wN N) z) (hN : N ≤ 59) (h : x ≤ y) (q : y < bigZ ∧ z < bigZ ∨ -bigZ < x ∧ -bigZ < z) : plusE bigZ x z ≤ plusE bigZ y z := by
  have h3 := bigZ_pos
  have h4 := wN_le (show N + 1 ≤ 64 by omega)
  have h5 := wN_two N
  unfold plusE
  unfold Ext at *
  split <;> split <;> (try split) <;> (try split) <;> omega
theorem ivA_sub {L P R : IvP} (hL : IvN 59 L.1 L.2) (hP : IvN 59 P.1 P.2) (hR : IvN 59 R.1 R.2) (s : subI L P) : subI (ivA L R) (ivA P R) :=
  ⟨plusE_sub hP.lo hL.lo hR.lo (by omega) s.1 (.inl ⟨hL.nlo, hR.nlo⟩), plusE_sub hL.hi hP.hi hR.hi (by omega) s.2 (.inr ⟨hL.nhi, hR.nhi⟩)⟩
theorem shT_pow {Q : IvP} (h : (shK Q).1 ≤ (shK Q).2) : 0 < (shT Q).1 ∧ (shT Q).1 ≤ (shT Q).2 := ⟨(shT_ok h).2.1.1, (shT_ok h).1.le⟩
theorem shT_sub {L P : IvP} (s : subI L P) (h : (shK L).1 ≤ (shK L).2) : ((shK P).1 ≤ (shK P).2) ∧ subI (shT L) (shT P) := by
  unfold subI at s
  have e1 : (shK P).1 ≤ (shK L).1 := by unfold shK; dsimp only; omega
  have e2 : (shK L).2 ≤ (shK P).2 := by unfold shK; dsimp only; omega
  have e3 : 0 ≤ (shK P).1 := by unfold shK; dsimp only; omega
  refine ⟨by omega, ?_, ?_⟩
  · exact Int.ofNat_le.2 (Nat.pow_le_pow_right (by omega) (by omega))
  · exact Int.ofNat_le.2 (Nat.pow_le_pow_right (by omega) (by omega))
theorem shrP_sub {L P R : IvP} (hR : IvN 60 R.1 R.2) (s : subI L P) (h : (shK L).1 ≤ (shK L).2) : subI (shrP R L) (shrP R P) := by
  obtain ⟨h2, s1, s2⟩ := shT_sub s h
  have h1 := shT_pow h
  have h3 := shT_pow h2
  have q := wN_le (show 60 ≤ 64 by omega)
  have k := fun a b (ea : Ext bigZ (wN 60) a) h1 h2 h3 h4 h5 => downE_in (x0 := R.1) (x := a) (x1 := R.2) (p := (shT P).1) (q := b) (r := (shT P).2) bigZ_pos q hR.lo ea hR.hi h1 h2 h3 h4 h5
  have hr := hR.le
  have c1 := k R.1 (shT L).1 hR.lo (by omega) (by omega) (by omega) (by omega) (by omega)
  have c2 := k R.1 (shT L).2 hR.lo (by omega) (by omega) (by omega) (by omega) (by omega)
  have c3 := k R.2 (shT L).1 hR.hi (by omega) (by omega) (by omega) (by omega) (by omega)
  have c4 := k R.2 (shT L).2 hR.hi (by omega) (by omega) (by omega) (by omega) (by omega)
  unfold subI shrP shrLo shrHi
  dsimp only
  revert c1 c2 c3 c4
  generalize lo4 (downE bigZ R.1 (shT P).1) (downE bigZ R.1 (shT P).2) (downE bigZ R.2 (shT P).1) (downE bigZ R.2 (shT P).2) = u
  generalize hi4 (downE bigZ R.1 (shT P).1) (downE bigZ R.1 (shT P).2) (downE bigZ R.2 (shT P).1) (downE bigZ R.2 (shT P).2) = v
  unfold lo4 hi4
  omega
theorem meet_sub {P Q : IvP} : subI (max P.1 Q.1, min P.2 Q.2) P := ⟨by dsimp only; omega, by dsimp only; omega⟩
theorem ivn_meet {N : Nat} {P Q : IvP} (h : IvN N P.1 P.2) (g : IvN N Q.1 Q.2) (hle : max P.1 Q.1 ≤ min P.2 Q.2) : IvN N (max P.1 Q.1) (min P.2 Q.2) := by
  obtain ⟨a1, a2, a3, a4, a5⟩ := h
  obtain ⟨b1, b2, b3, b4, b5⟩ := g
  exact ⟨ext_max a1 b1, ext_min a2 b2, hle, by omega, by omega⟩

end Go.Proofs.YtennphechbngcaaGreat

namespace Go.Proofs.YtennphechbngcaaGreat
open Go.RowKit
set_option linter.unusedVariables false
set_option linter.unusedSimpArgs false


set_option maxRecDepth 100000 in
set_option maxHeartbeats 8000000 in
theorem imod_zero {w : World} {Z1 Z2 Z3 Z4 : Zone} {p q : Iv} {P Q : IvP} {A B C D : Option Addr} {a b c d : Nat} (hp : IvW P p) (gp : IvN 60 P.1 P.2) (hq : IvW Q q) (gq : IvN 60 Q.1 Q.2) (u1 : U64s w Z1 A a p.l0) (u2 : U64s w Z2 B b p.l1) (u3 : U64s w Z3 C c q.l0) (u4 : U64s w Z4 D d q.l1) (hne : partsP Q = []) :
    Calls Tryz.prog 24 #[.agg #[.bool p.n0, .bool p.s0, .slice A p.l0.length a, .bool p.n1, .bool p.s1, .slice B p.l1.length b], .agg #[.bool q.n0, .bool q.s0, .slice C q.l0.length c, .bool q.n1, .bool q.s1, .slice D q.l1.length d]] w fun e w' => e = .returned (.tuple #[.agg #[.bool false, .bool false, .slice none 0 0, .bool false, .bool false, .slice none 0 0], .int .i64 30]) ∧ Below w.heap.size w w' := by
  obtain ⟨bA, bB, bR, hB0⟩ := boxX w (.bool p.n0) (.bool p.s0) (.slice A p.l0.length a) (.bool p.n1) (.bool p.s1) (.slice B p.l1.length b) (.bool q.n0) (.bool q.s0) (.slice C q.l0.length c) (.bool q.n1) (.bool q.s1) (.slice D q.l1.length d) (.bool false) (.bool false) (.slice none 0 0) (.bool false) (.bool false) (.slice none 0 0) 29
  have hb1 := hB0.alloc hB0.size (.cells #[.bool p.n0, .bool p.s0, .slice A p.l0.length a, .bool p.n1, .bool p.s1, .slice B p.l1.length b, .bool q.n0, .bool q.s0, .slice C q.l0.length c, .bool q.n1, .bool q.s1, .slice D q.l1.length d] 29)
  have hg := given_twoA (p := p) (q := q) (ty := 29) (u1.below hB0) (u2.below hB0) (u3.below hB0) (u4.below hB0)
  rw [show (((w.alloc (.cells #[.bool p.n0, .bool p.s0, .slice A p.l0.length a, .bool p.n1, .bool p.s1, .slice B p.l1.length b] 29)).alloc (.cells #[.bool q.n0, .bool q.s0, .slice C q.l0.length c, .bool q.n1, .bool q.s1, .slice D q.l1.length d] 29)).alloc (.cells #[.bool false, .bool false, .slice none 0 0, .bool false, .bool false, .slice none 0 0] 29)).heap.size = w.heap.size + 3 by simp] at hg
  have kp := hp.k gp (by omega)
  have kq := hq.k gq (by omega)
  have hck := ichecked_any (n := 2) (c := 2) hg rfl (by simp) (by intro p' hp'; simp only [List.mem_cons, List.not_mem_nil, or_false] at hp'; rcases hp' with rfl | rfl <;> exact ⟨by have := kp.q0; have := kq.q0; omega, by have := kp.q1; have := kq.q1; omega⟩)
  rw [errAs_two, if_pos ⟨kp.ok, kq.ok⟩] at hck
  have HA := Lib.hid (bA.alloc (.cells #[.bool p.n0, .bool p.s0, .slice A p.l0.length a, .bool p.n1, .bool p.s1, .slice B p.l1.length b, .bool q.n0, .bool q.s0, .slice C q.l0.length c, .bool q.n1, .bool q.s1, .slice D q.l1.length d] 29))
  have HBb := Lib.hid (bB.alloc (.cells #[.bool p.n0, .bool p.s0, .slice A p.l0.length a, .bool p.n1, .bool p.s1, .slice B p.l1.length b, .bool q.n0, .bool q.s0, .slice C q.l0.length c, .bool q.n1, .bool q.s1, .slice D q.l1.length d] 29))
  have HR := Lib.hid (bR.alloc (.cells #[.bool p.n0, .bool p.s0, .slice A p.l0.length a, .bool p.n1, .bool p.s1, .slice B p.l1.length b, .bool q.n0, .bool q.s0, .slice C q.l0.length c, .bool q.n1, .bool q.s1, .slice D q.l1.length d] 29))
  have Hck := Lib.hid hck
  have Hb1 := Lib.hid hb1
  obtain ⟨a0, a1, a2, a3, a4, a5, _, _, _, _, _, _, _⟩ := bA
  obtain ⟨b0, b1, b2, b3, b4, b5, _, _, _, _, _, _, _⟩ := bB
  have PT := Lib.hid (fun (W : World) (h : Below w.heap.size w W) => iparted_w hq gq (by omega) (u3.below h) (u4.below h))
  have PT2 : Hid (∀ W, Below w.heap.size w W → Calls Tryz.prog 58 #[.agg #[.bool q.n0, .bool q.s0, .slice C q.l0.length c, .bool q.n1, .bool q.s1, .slice D q.l1.length d]] W fun e w' => ∃ Av cv, e = .returned (.slice Av 0 cv) ∧ Below W.heap.size W w') := fun W h => by
    refine (PT.out W h).mono ?_
    rintro e w' ⟨Av, cv, rfl, _, _, hb⟩
    exact ⟨Av, cv, by rw [hne]; rfl, hb⟩
  clear hg hck hb1 bR hB0 u1 u2 u3 u4 hp hq gp gq hne kp kq PT
  go_enter Tryz.func24, Tryz.ntmps24
  go_wp2_with fail
  refine Hck.out.mono ?_
  rintro e w1 ⟨rfl, hc⟩
  have H1 := Lib.hid (from_ Hb1.out hc)
  replace HR := Lib.hid (HR.out.below hc)
  replace HA := Lib.hid (HA.out.below hc)
  replace HBb := Lib.hid (HBb.out.below hc)
  clear a0 a1 a2 a3 a4 a5 b0 b1 b2 b3 b4 b5 Hck Hb1
  obtain ⟨b0, b1, b2, b3, b4, b5, _, _, _, _, _, _, _⟩ := id HBb.out
  clear hc
  go_wp2_with fail
  refine (PT2.out _ H1.out).mono ?_
  rintro e w2 ⟨Av, cv, rfl, hc⟩
  have HB2 := Lib.hid (from_ H1.out hc)
  have R := HR.out.below hc
  have HP := Lib.hid (R.put (w := w) HB2.out (show w.heap.size ≤ w.heap.size + 2 by omega) (.bool false) (.bool false) (.slice none 0 0) (.bool false) (.bool false) (.slice none 0 0))
  obtain ⟨g0, g1, g2, g3, g4, g5, f0, f1, f2, f3, f4, f5, _⟩ := R
  clear b0 b1 b2 b3 b4 b5 hc PT2
  go_wp2
  refine bodyPost_ret (res_itv2 rfl _ (w.heap.size + 2) rfl HP.out.box) rfl ?_
  exact ⟨by first | rfl | trivial, HP.out.bel⟩

set_option maxRecDepth 100000 in
set_option maxHeartbeats 8000000 in
theorem ishiftD_none {w : World} {Z1 Z2 Z3 Z4 : Zone} {p q : Iv} {P Q : IvP} {A B C D : Option Addr} {a b c d : Nat} (hp : IvW P p) (gp : IvN 32 P.1 P.2) (hq : IvW Q q) (gq : IvN 60 Q.1 Q.2) (u1 : U64s w Z1 A a p.l0) (u2 : U64s w Z2 B b p.l1) (u3 : U64s w Z3 C c q.l0) (u4 : U64s w Z4 D d q.l1) (hle : ¬ (shK Q).1 ≤ (shK Q).2) :
    Calls Tryz.prog 56 #[.agg #[.bool p.n0, .bool p.s0, .slice A p.l0.length a, .bool p.n1, .bool p.s1, .slice B p.l1.length b], .agg #[.bool q.n0, .bool q.s0, .slice C q.l0.length c, .bool q.n1, .bool q.s1, .slice D q.l1.length d], .func (.func 57) #[] #[]] w fun e w' => e = .returned (.tuple #[.agg #[.bool false, .bool false, .slice none 0 0, .bool false, .bool false, .slice none 0 0], .int .i64 2]) ∧ Below w.heap.size w w' := by
  obtain ⟨bA, bB, bR, hB0⟩ := boxX w (.bool p.n0) (.bool p.s0) (.slice A p.l0.length a) (.bool p.n1) (.bool p.s1) (.slice B p.l1.length b) (.bool q.n0) (.bool q.s0) (.slice C q.l0.length c) (.bool q.n1) (.bool q.s1) (.slice D q.l1.length d) (.bool false) (.bool false) (.slice none 0 0) (.bool false) (.bool false) (.slice none 0 0) 29
  have hb1 := hB0.alloc hB0.size (.cells #[.bool p.n0, .bool p.s0, .slice A p.l0.length a, .bool p.n1, .bool p.s1, .slice B p.l1.length b, .bool q.n0, .bool q.s0, .slice C q.l0.length c, .bool q.n1, .bool q.s1, .slice D q.l1.length d] 29)
  have hg := given_twoA (p := p) (q := q) (ty := 29) (u1.below hB0) (u2.below hB0) (u3.below hB0) (u4.below hB0)
  rw [show (((w.alloc (.cells #[.bool p.n0, .bool p.s0, .slice A p.l0.length a, .bool p.n1, .bool p.s1, .slice B p.l1.length b] 29)).alloc (.cells #[.bool q.n0, .bool q.s0, .slice C q.l0.length c, .bool q.n1, .bool q.s1, .slice D q.l1.length d] 29)).alloc (.cells #[.bool false, .bool false, .slice none 0 0, .bool false, .bool false, .slice none 0 0] 29)).heap.size = w.heap.size + 3 by simp] at hg
  have kp := hp.k gp (by omega)
  have kq := hq.k gq (by omega)
  have hck := ichecked_any (n := 2) (c := 2) hg rfl (by simp) (by intro p' hp'; simp only [List.mem_cons, List.not_mem_nil, or_false] at hp'; rcases hp' with rfl | rfl <;> exact ⟨by have := kp.q0; have := kq.q0; omega, by have := kp.q1; have := kq.q1; omega⟩)
  rw [errAs_two, if_pos ⟨kp.ok, kq.ok⟩] at hck
  have HA := Lib.hid (bA.alloc (.cells #[.bool p.n0, .bool p.s0, .slice A p.l0.length a, .bool p.n1, .bool p.s1, .slice B p.l1.length b, .bool q.n0, .bool q.s0, .slice C q.l0.length c, .bool q.n1, .bool q.s1, .slice D q.l1.length d] 29))
  have HBb := Lib.hid (bB.alloc (.cells #[.bool p.n0, .bool p.s0, .slice A p.l0.length a, .bool p.n1, .bool p.s1, .slice B p.l1.length b, .bool q.n0, .bool q.s0, .slice C q.l0.length c, .bool q.n1, .bool q.s1, .slice D q.l1.length d] 29))
  have HR := Lib.hid (bR.alloc (.cells #[.bool p.n0, .bool p.s0, .slice A p.l0.length a, .bool p.n1, .bool p.s1, .slice B p.l1.length b, .bool q.n0, .bool q.s0, .slice C q.l0.length c, .bool q.n1, .bool q.s1, .slice D q.l1.length d] 29))
  have Hck := Lib.hid hck
  have Hb1 := Lib.hid hb1
  obtain ⟨a0, a1, a2, a3, a4, a5, _, _, _, _, _, _, _⟩ := bA
  obtain ⟨b0, b1, b2, b3, b4, b5, _, _, _, _, _, _, _⟩ := bB
  have hb1 := big_one
  have hbig := wN_le (show 1 ≤ 64 by omega)
  have ebig : wN 1 = 18446744073709551616 := rfl
  obtain ⟨km, kw⟩ : ∃ km, IvW (shK Q) km := ⟨_, IvW.mk _⟩
  obtain ⟨xs0, xl0, xn0⟩ : ∃ s l, Nm (0 : Int) s l := ⟨_, _, rfl, rfl⟩
  obtain ⟨xs1, xl1, xn1⟩ : ∃ s l, Nm (63 : Int) s l := ⟨_, _, rfl, rfl⟩
  have xw : IvW (0, 63) ⟨false, xs0, xl0, false, xs1, xl1⟩ := nm_ivw xn0 xn1 (by dsimp only; omega) (by dsimp only; omega)
  have xg : IvN 1 (0 : Int) 63 := ⟨.inr (.inr (by omega)), .inr (.inr (by omega)), by omega, by omega, by omega⟩
  have OF : Hid (∀ W, Calls Tryz.prog 79 #[.int .i64 0, .int .i64 63] W fun e w' => ∃ A c B d, e = .returned (.tuple #[.agg #[.bool false, .bool xs0, .slice A xl0.length c, .bool false, .bool xs1, .slice B xl1.length d], .int .i64 0]) ∧ U64s w' (new W.heap.size) A c xl0 ∧ U64s w' (new W.heap.size) B d xl1 ∧ Below W.heap.size W w') := fun W => by
    have h := iof_good (w := W) (x := 0) (y := 63) (by omega) (by omega) (by omega)
    rw [← xw.1.1, ← xw.1.2.1, ← xw.1.2.2, ← xw.2.1, ← xw.2.2.1, ← xw.2.2.2] at h
    exact h
  have MT := Lib.hid (fun (W : World) (Z5 Z6 : Zone) (E F : Option Addr) (e f : Nat) (h : Below w.heap.size w W) (v0 : U64s W Z5 E e xl0) (v1 : U64s W Z6 F f xl1) => imeet_w (w := W) hq gq (by omega) xw xg (by omega) kw (g := false) (decide_eq_false hle) (u3.below h) (u4.below h) v0 v1)
  clear hg hck hb1 bR hB0 u1 u2 u3 u4 hp hq gp gq kp kq hle hbig ebig kw xn0 xn1 xw xg
  go_enter Tryz.func56, Tryz.ntmps56
  go_wp2_with fail
  refine Hck.out.mono ?_
  rintro e w1 ⟨rfl, hc⟩
  have H1 := Lib.hid (from_ Hb1.out hc)
  replace HR := Lib.hid (HR.out.below hc)
  replace HA := Lib.hid (HA.out.below hc)
  replace HBb := Lib.hid (HBb.out.below hc)
  clear a0 a1 a2 a3 a4 a5 b0 b1 b2 b3 b4 b5 Hck Hb1 hc
  go_wp2_with fail
  refine (OF.out _).mono ?_
  rintro e w2 ⟨X0, x0, X1, x1, rfl, vx0, vx1, hc⟩
  go_upto_region 5 with fail
  have hax : Below w2.heap.size w2 (w2.alloc (.cells #[.bool false, .bool xs0, .slice X0 xl0.length x0, .bool false, .bool xs1, .slice X1 xl1.length x1] 29)) := (Below.refl _ _).alloc (Nat.le_refl _) _
  have BX := Lib.hid (Box6.new w2 (.bool false) (.bool xs0) (.slice X0 xl0.length x0) (.bool false) (.bool xs1) (.slice X1 xl1.length x1) 29)
  obtain ⟨gX, hgX⟩ : ∃ gX, gX = w2.heap.size := ⟨_, rfl⟩
  rw [← hgX] at BX
  have hc8 := from_ hc hax
  have VX0 := Lib.hid (vx0.below hax)
  have VX1 := Lib.hid (vx1.below hax)
  replace HR := Lib.hid (HR.out.below hc8)
  replace HA := Lib.hid (HA.out.below hc8)
  replace HBb := Lib.hid (HBb.out.below hc8)
  replace H1 := Lib.hid (from_ H1.out hc8)
  clear hc hax hc8 vx0 vx1 OF
  generalize hWx : w2.alloc (.cells #[.bool false, .bool xs0, .slice X0 xl0.length x0, .bool false, .bool xs1, .slice X1 xl1.length x1] 29) = W2 at *
  try simp only [← hgX]
  clear hWx hgX
  obtain ⟨b0, b1, b2, b3, b4, b5, _, _, _, _, _, _, _⟩ := id HBb.out
  obtain ⟨y0, y1, y2, y3, y4, y5, _, _, _, _, _, _, _⟩ := id BX.out
  go_wp2_with fail
  refine (MT.out _ _ _ _ _ _ _ H1.out VX0.out VX1.out).mono ?_
  rintro e w3 ⟨_, hF, hc⟩
  obtain rfl := hF (by first | rfl | trivial)
  have hax : Below w3.heap.size w3 (w3.alloc (.cells #[.bool false, .bool false, .slice none 0 0, .bool false, .bool false, .slice none 0 0] 29)) := (Below.refl _ _).alloc (Nat.le_refl _) _
  have R := (HR.out.below hc).below hax
  have HP := Lib.hid (R.put (w := w) (from_ (from_ H1.out hc) hax) (show w.heap.size ≤ w.heap.size + 2 by omega) (.bool false) (.bool false) (.slice none 0 0) (.bool false) (.bool false) (.slice none 0 0))
  obtain ⟨g0, g1, g2, g3, g4, g5, f0, f1, f2, f3, f4, f5, _⟩ := HR.out.below hc
  have hltr := HR.out.lt
  have hcs := hc.size
  have n1 : ¬ w3.heap.size = w.heap.size + 2 := by omega
  have n2 : ¬ w.heap.size + 2 = w3.heap.size := by omega
  have n3 : ¬ w3.heap.size = w.heap.size + 1 + 1 := by omega
  have n4 : ¬ w.heap.size + 1 + 1 = w3.heap.size := by omega
  obtain ⟨G0, G1, G2, G3, G4, G5, F0, F1, F2, F3, F4, F5, _⟩ := R
  clear hF hc hax b0 b1 b2 b3 b4 b5 y0 y1 y2 y3 y4 y5 BX HBb VX0 VX1 MT hcs hltr g0 g1 g2 g3 g4 g5 f0 f1 f2 f3 f4 f5
  go_upto_region 7 with fail
  generalize w3.alloc (.cells #[.bool false, .bool false, .slice none 0 0, .bool false, .bool false, .slice none 0 0] 29) = W3 at *
  clear n1 n2 n3 n4
  go_wp2
  refine bodyPost_ret (res_itv2 rfl _ (w.heap.size + 2) rfl HP.out.box) rfl ?_
  exact ⟨by first | rfl | trivial, HP.out.bel⟩

set_option maxRecDepth 100000 in
set_option maxHeartbeats 8000000 in
theorem ishr_none {w : World} {Z1 Z2 Z3 Z4 : Zone} {p q : Iv} {P Q : IvP} {A B C D : Option Addr} {a b c d : Nat} (hp : IvW P p) (gp : IvN 32 P.1 P.2) (hq : IvW Q q) (gq : IvN 60 Q.1 Q.2) (u1 : U64s w Z1 A a p.l0) (u2 : U64s w Z2 B b p.l1) (u3 : U64s w Z3 C c q.l0) (u4 : U64s w Z4 D d q.l1) (hle : ¬ (shK Q).1 ≤ (shK Q).2) :
    Calls Tryz.prog 20 #[.agg #[.bool p.n0, .bool p.s0, .slice A p.l0.length a, .bool p.n1, .bool p.s1, .slice B p.l1.length b], .agg #[.bool q.n0, .bool q.s0, .slice C q.l0.length c, .bool q.n1, .bool q.s1, .slice D q.l1.length d]] w fun e w' => e = .returned (.tuple #[.agg #[.bool false, .bool false, .slice none 0 0, .bool false, .bool false, .slice none 0 0], .int .i64 2]) ∧ Below w.heap.size w w' := by
  obtain ⟨bA, bB, bR, hB0⟩ := boxX w (.bool p.n0) (.bool p.s0) (.slice A p.l0.length a) (.bool p.n1) (.bool p.s1) (.slice B p.l1.length b) (.bool q.n0) (.bool q.s0) (.slice C q.l0.length c) (.bool q.n1) (.bool q.s1) (.slice D q.l1.length d) (.bool false) (.bool false) (.slice none 0 0) (.bool false) (.bool false) (.slice none 0 0) 29
  have J := Lib.hid (ishiftD_none hp gp hq gq (u1.below hB0) (u2.below hB0) (u3.below hB0) (u4.below hB0) hle)
  have HR := Lib.hid bR
  have HB := Lib.hid hB0
  obtain ⟨a0, a1, a2, a3, a4, a5, _, _, _, _, _, _, _⟩ := bA
  obtain ⟨b0, b1, b2, b3, b4, b5, _, _, _, _, _, _, _⟩ := bB
  clear bR hB0 u1 u2 u3 u4 hp gp hq gq hle
  go_enter Tryz.func20, Tryz.ntmps20
  go_wp2_with fail
  refine J.out.mono ?_
  rintro e w1 ⟨rfl, hc⟩
  have R := HR.out.below hc
  have HP := Lib.hid (R.put (w := w) (from_ HB.out hc) (show w.heap.size ≤ w.heap.size + 2 by omega) (.bool false) (.bool false) (.slice none 0 0) (.bool false) (.bool false) (.slice none 0 0))
  obtain ⟨g0, g1, g2, g3, g4, g5, f0, f1, f2, f3, f4, f5, _⟩ := R
  clear hc a0 a1 a2 a3 a4 a5 b0 b1 b2 b3 b4 b5
  go_wp2
  refine bodyPost_ret (res_itv2 rfl _ (w.heap.size + 2) rfl HP.out.box) rfl ?_
  exact ⟨by first | rfl | trivial, HP.out.bel⟩
theorem iin_w {w : World} {Z1 Z2 Z3 Z4 : Zone} {p q : Iv} {P Q : IvP} {A B C D : Option Addr} {a b c d : Nat} (hp : IvW P p) (gp : IvN 60 P.1 P.2) (hq : IvW Q q) (gq : IvN 60 Q.1 Q.2) (u1 : U64s w Z1 A a p.l0) (u2 : U64s w Z2 B b p.l1) (u3 : U64s w Z3 C c q.l0) (u4 : U64s w Z4 D d q.l1) {r : Bool} (hr : decide (Q.1 ≤ P.1 ∧ P.2 ≤ Q.2) = r) :
    Calls Tryz.prog 26 #[.agg #[.bool p.n0, .bool p.s0, .slice A p.l0.length a, .bool p.n1, .bool p.s1, .slice B p.l1.length b], .agg #[.bool q.n0, .bool q.s0, .slice C q.l0.length c, .bool q.n1, .bool q.s1, .slice D q.l1.length d]] w fun e w' => e = .returned (.tuple #[.bool r, .int .i64 0]) ∧ Below w.heap.size w w' := by
  have kp := hp.k gp (by omega)
  have kq := hq.k gq (by omega)
  exact iin_good u1 u2 u3 u4 kp.ok kq.ok (by have := kp.q0; omega) (by have := kp.q1; omega) (by have := kq.q0; omega) (by have := kq.q1; omega) (by rw [kp.lo, kq.lo, kp.hi, kq.hi]; exact hr)
theorem imeetG_w {w : World} {Z1 Z2 Z3 Z4 : Zone} {p q : Iv} {P Q : IvP} {A B C D : Option Addr} {a b c d : Nat} (hp : IvW P p) (gp : IvN 60 P.1 P.2) (hq : IvW Q q) (gq : IvN 60 Q.1 Q.2) (u1 : U64s w Z1 A a p.l0) (u2 : U64s w Z2 B b p.l1) (u3 : U64s w Z3 C c q.l0) (u4 : U64s w Z4 D d q.l1) {r : Iv} (hr : IvW (max P.1 Q.1, min P.2 Q.2) r) (hg : max P.1 Q.1 ≤ min P.2 Q.2) :
    Calls Tryz.prog 25 #[.agg #[.bool p.n0, .bool p.s0, .slice A p.l0.length a, .bool p.n1, .bool p.s1, .slice B p.l1.length b], .agg #[.bool q.n0, .bool q.s0, .slice C q.l0.length c, .bool q.n1, .bool q.s1, .slice D q.l1.length d]] w fun e w' => ∃ rA ra rB rb, e = .returned (.tuple #[.agg #[.bool r.n0, .bool r.s0, .slice rA r.l0.length ra, .bool r.n1, .bool r.s1, .slice rB r.l1.length rb], .int .i64 0]) ∧ U64s w' (new w.heap.size) rA ra r.l0 ∧ U64s w' (new w.heap.size) rB rb r.l1 ∧ Below w.heap.size w w' := by
  have kp := hp.k gp (by omega)
  have kq := hq.k gq (by omega)
  exact iMeet_good u1 u2 u3 u4 kp.ok kq.ok (by have := kp.q0; omega) (by have := kp.q1; omega) (by have := kq.q0; omega) (by have := kq.q1; omega) (z0 := max P.1 Q.1) (z1 := min P.2 Q.2) (by rw [kp.lo, kq.lo]) (by rw [kp.hi, kq.hi]) hr.1 hr.2 hg
/-- Meet, whatever the words: where it answers no interval. -/
theorem imeetE_any {p q : Iv} (sp : p.l0.length ≤ 4 ∧ p.l1.length ≤ 4) (sq : q.l0.length ≤ 4 ∧ q.l1.length ≤ 4) (mp : Small p.l0 ∧ Small p.l1) (mq : Small q.l0 ∧ Small q.l1) :
    (∃ E : Int, E ≠ 0 ∧ ∀ (w : World) (Z1 Z2 Z3 Z4 : Zone) (A B C D : Option Addr) (a b c d : Nat), U64s w Z1 A a p.l0 → U64s w Z2 B b p.l1 → U64s w Z3 C c q.l0 → U64s w Z4 D d q.l1 → Calls Tryz.prog 25 #[.agg #[.bool p.n0, .bool p.s0, .slice A p.l0.length a, .bool p.n1, .bool p.s1, .slice B p.l1.length b], .agg #[.bool q.n0, .bool q.s0, .slice C q.l0.length c, .bool q.n1, .bool q.s1, .slice D q.l1.length d]] w fun e w' => e = .returned (.tuple #[.agg #[.bool false, .bool false, .slice none 0 0, .bool false, .bool false, .slice none 0 0], .int .i64 E]) ∧ Below w.heap.size w w') ∨
    (p.ok = true ∧ q.ok = true ∧ max p.lo q.lo ≤ min p.hi q.hi) := by
  by_cases h1 : p.ok = true ∧ q.ok = true
  · by_cases h2 : max p.lo q.lo ≤ min p.hi q.hi
    · exact .inr ⟨h1.1, h1.2, h2⟩
    · obtain ⟨r, hr⟩ : ∃ r, IvW (max p.lo q.lo, min p.hi q.hi) r := ⟨_, IvW.mk _⟩
      exact .inl ⟨6, by decide, fun w Z1 Z2 Z3 Z4 A B C D a b c d u1 u2 u3 u4 => iMeet_none u1 u2 u3 u4 h1.1 h1.2 (by omega) (by omega) (by omega) (by omega) (z0 := max p.lo q.lo) (z1 := min p.hi q.hi) rfl rfl hr.1 hr.2 (Int.not_le.1 h2)⟩
  · exact .inl ⟨8, by decide, fun w Z1 Z2 Z3 Z4 A B C D a b c d u1 u2 u3 u4 => iMeet_bad u1 u2 u3 u4 (fun a b => h1 ⟨a, b⟩) (by omega) (by omega) (by omega) (by omega)⟩
theorem zero_w : IvW (0, 0) ⟨false, false, [], false, false, []⟩ := by
  have h3 := bigZ_pos
  exact nm_ivw (P := (0, 0)) (s0 := false) (s1 := false) (l0 := []) (l1 := []) ⟨rfl, rfl⟩ ⟨rfl, rfl⟩ (by dsimp only; omega) (by dsimp only; omega)
theorem zero_n : IvN 1 (0 : Int) 0 := by
  have h3 := bigZ_pos
  have e : wN 1 = 18446744073709551616 := rfl
  exact ⟨.inr (.inr (by omega)), .inr (.inr (by omega)), by omega, by omega, by omega⟩

/-- A function's answer to two intervals, with an error's number. -/
def AnsI (F : Nat) (p q u : Iv) (E : Int) : Prop := ∀ (w : World) (Z1 Z2 Z3 Z4 : Zone) (A B C D : Option Addr) (a b c d : Nat), U64s w Z1 A a p.l0 → U64s w Z2 B b p.l1 → U64s w Z3 C c q.l0 → U64s w Z4 D d q.l1 → Calls Tryz.prog F #[.agg #[.bool p.n0, .bool p.s0, .slice A p.l0.length a, .bool p.n1, .bool p.s1, .slice B p.l1.length b], .agg #[.bool q.n0, .bool q.s0, .slice C q.l0.length c, .bool q.n1, .bool q.s1, .slice D q.l1.length d]] w fun e w' => ∃ rA ra rB rb, e = .returned (.tuple #[.agg #[.bool u.n0, .bool u.s0, .slice rA u.l0.length ra, .bool u.n1, .bool u.s1, .slice rB u.l1.length rb], .int .i64 E]) ∧ U64s w' (new w.heap.size) rA ra u.l0 ∧ U64s w' (new w.heap.size) rB rb u.l1 ∧ Below w.heap.size w w'
/-- In's answer. -/
def InI (p q : Iv) (x : Bool) : Prop := ∀ (w : World) (Z1 Z2 Z3 Z4 : Zone) (A B C D : Option Addr) (a b c d : Nat), U64s w Z1 A a p.l0 → U64s w Z2 B b p.l1 → U64s w Z3 C c q.l0 → U64s w Z4 D d q.l1 → Calls Tryz.prog 26 #[.agg #[.bool p.n0, .bool p.s0, .slice A p.l0.length a, .bool p.n1, .bool p.s1, .slice B p.l1.length b], .agg #[.bool q.n0, .bool q.s0, .slice C q.l0.length c, .bool q.n1, .bool q.s1, .slice D q.l1.length d]] w fun e w' => e = .returned (.tuple #[.bool x, .int .i64 0]) ∧ Below w.heap.size w w'
def zeroI : Iv := ⟨false, false, [], false, false, []⟩
theorem zeroI_in : InI zeroI zeroI true := fun w Z1 Z2 Z3 Z4 A B C D a b c d u1 u2 u3 u4 => iin_w zero_w (zero_n.up (by omega)) zero_w (zero_n.up (by omega)) u1 u2 u3 u4 (by decide)
theorem AnsI.zero {F : Nat} {p q : Iv} {E : Int} (h : ∀ (w : World) (Z1 Z2 Z3 Z4 : Zone) (A B C D : Option Addr) (a b c d : Nat), U64s w Z1 A a p.l0 → U64s w Z2 B b p.l1 → U64s w Z3 C c q.l0 → U64s w Z4 D d q.l1 → Calls Tryz.prog F #[.agg #[.bool p.n0, .bool p.s0, .slice A p.l0.length a, .bool p.n1, .bool p.s1, .slice B p.l1.length b], .agg #[.bool q.n0, .bool q.s0, .slice C q.l0.length c, .bool q.n1, .bool q.s1, .slice D q.l1.length d]] w fun e w' => e = .returned (.tuple #[.agg #[.bool false, .bool false, .slice none 0 0, .bool false, .bool false, .slice none 0 0], .int .i64 E]) ∧ Below w.heap.size w w') : AnsI F p q zeroI E := fun w Z1 Z2 Z3 Z4 A B C D a b c d u1 u2 u3 u4 => by
  refine (h w Z1 Z2 Z3 Z4 A B C D a b c d u1 u2 u3 u4).mono ?_
  rintro e w' ⟨rfl, hb⟩
  exact ⟨none, 0, none, 0, rfl, U64s.nil _ _, U64s.nil _ _, hb⟩
theorem mul_pair {L P R : IvP} {k p r : Iv} (hL : IvW L k) (gL : IvN 4 L.1 L.2) (hP : IvW P p) (gP : IvN 4 P.1 P.2) (hR : IvW R r) (gR : IvN 4 R.1 R.2) (s : subI L P) : ∃ u v, AnsI 11 k r u 0 ∧ AnsI 11 p r v 0 ∧ InI u v true := by
  obtain ⟨u, hu⟩ : ∃ u, IvW (ivM L R) u := ⟨_, IvW.mk _⟩
  obtain ⟨v, hv⟩ : ∃ v, IvW (ivM P R) v := ⟨_, IvW.mk _⟩
  exact ⟨u, v, fun w Z1 Z2 Z3 Z4 A B C D a b c d u1 u2 u3 u4 => imul_w hL hR hu gL gR (by omega) (by omega) u1 u2 u3 u4, fun w Z1 Z2 Z3 Z4 A B C D a b c d u1 u2 u3 u4 => imul_w hP hR hv gP gR (by omega) (by omega) u1 u2 u3 u4, fun w Z1 Z2 Z3 Z4 A B C D a b c d u1 u2 u3 u4 => iin_w hu ((ivM_ok gL gR (by omega)).up (by omega)) hv ((ivM_ok gP gR (by omega)).up (by omega)) u1 u2 u3 u4 (decide_eq_true (ivM_sub (gL.up (by omega)) (gP.up (by omega)) (gR.up (by omega)) s))⟩
theorem add_pair {L P R : IvP} {k p r : Iv} (hL : IvW L k) (gL : IvN 4 L.1 L.2) (hP : IvW P p) (gP : IvN 4 P.1 P.2) (hR : IvW R r) (gR : IvN 4 R.1 R.2) (s : subI L P) : ∃ u v, AnsI 9 k r u 0 ∧ AnsI 9 p r v 0 ∧ InI u v true := by
  obtain ⟨u, hu⟩ : ∃ u, IvW (ivA L R) u := ⟨_, IvW.mk _⟩
  obtain ⟨v, hv⟩ : ∃ v, IvW (ivA P R) v := ⟨_, IvW.mk _⟩
  exact ⟨u, v, fun w Z1 Z2 Z3 Z4 A B C D a b c d u1 u2 u3 u4 => iadd_w hL hR hu gL gR (by omega) u1 u2 u3 u4, fun w Z1 Z2 Z3 Z4 A B C D a b c d u1 u2 u3 u4 => iadd_w hP hR hv gP gR (by omega) u1 u2 u3 u4, fun w Z1 Z2 Z3 Z4 A B C D a b c d u1 u2 u3 u4 => iin_w hu ((ivA_ok gL gR (by omega)).up (by omega)) hv ((ivA_ok gP gR (by omega)).up (by omega)) u1 u2 u3 u4 (decide_eq_true (ivA_sub (gL.up (by omega)) (gP.up (by omega)) (gR.up (by omega)) s))⟩
theorem div_pair {L P R : IvP} {k p r : Iv} (hL : IvW L k) (gL : IvN 4 L.1 L.2) (hP : IvW P p) (gP : IvN 4 P.1 P.2) (hR : IvW R r) (gR : IvN 4 R.1 R.2) (s : subI L P) : ∃ (E : Int) (u v u' v' : Iv), (E = 0 ∨ E = 30) ∧ AnsI 23 k r u E ∧ AnsI 23 p r v E ∧ InI u v true ∧ AnsI 24 k r u' E ∧ AnsI 24 p r v' E ∧ InI u' v' true := by
  by_cases hne : partsP R = []
  · exact ⟨30, zeroI, zeroI, zeroI, zeroI, .inr rfl, AnsI.zero (fun w Z1 Z2 Z3 Z4 A B C D a b c d u1 u2 u3 u4 => idiv_zero hL (gL.up (by omega)) hR (gR.up (by omega)) u1 u2 u3 u4 hne), AnsI.zero (fun w Z1 Z2 Z3 Z4 A B C D a b c d u1 u2 u3 u4 => idiv_zero hP (gP.up (by omega)) hR (gR.up (by omega)) u1 u2 u3 u4 hne), zeroI_in, AnsI.zero (fun w Z1 Z2 Z3 Z4 A B C D a b c d u1 u2 u3 u4 => imod_zero hL (gL.up (by omega)) hR (gR.up (by omega)) u1 u2 u3 u4 hne), AnsI.zero (fun w Z1 Z2 Z3 Z4 A B C D a b c d u1 u2 u3 u4 => imod_zero hP (gP.up (by omega)) hR (gR.up (by omega)) u1 u2 u3 u4 hne), zeroI_in⟩
  · obtain ⟨u, hu⟩ : ∃ u, IvW (ivD L R) u := ⟨_, IvW.mk _⟩
    obtain ⟨v, hv⟩ : ∃ v, IvW (ivD P R) v := ⟨_, IvW.mk _⟩
    obtain ⟨u', hu'⟩ : ∃ u, IvW (modP L R) u := ⟨_, IvW.mk _⟩
    obtain ⟨v', hv'⟩ : ∃ v, IvW (modP P R) v := ⟨_, IvW.mk _⟩
    have h0 : ¬ (R.1 = 0 ∧ R.2 = 0) := fun h => hne ((parts_nil gR.le).2 h)
    have gL' := gL.up (M := 60) (by omega)
    have gP' := gP.up (M := 60) (by omega)
    have gR' := gR.up (M := 60) (by omega)
    exact ⟨0, u, v, u', v', .inl rfl, fun w Z1 Z2 Z3 Z4 A B C D a b c d u1 u2 u3 u4 => idiv_w hL gL' hR gR' u1 u2 u3 u4 hne hu, fun w Z1 Z2 Z3 Z4 A B C D a b c d u1 u2 u3 u4 => idiv_w hP gP' hR gR' u1 u2 u3 u4 hne hv, fun w Z1 Z2 Z3 Z4 A B C D a b c d u1 u2 u3 u4 => iin_w hu (ivD_ok gL' gR' (by omega) (by omega) hne) hv (ivD_ok gP' gR' (by omega) (by omega) hne) u1 u2 u3 u4 (decide_eq_true (ivD_sub gL' gP' gR' s)), fun w Z1 Z2 Z3 Z4 A B C D a b c d u1 u2 u3 u4 => imod_w hL gL' hR gR' u1 u2 u3 u4 hne hu', fun w Z1 Z2 Z3 Z4 A B C D a b c d u1 u2 u3 u4 => imod_w hP gP' hR gR' u1 u2 u3 u4 hne hv', fun w Z1 Z2 Z3 Z4 A B C D a b c d u1 u2 u3 u4 => iin_w hu' (ivn_mod gL' gR' h0 (by omega)) hv' (ivn_mod gP' gR' h0 (by omega)) u1 u2 u3 u4 (decide_eq_true (modP_sub gL' gP' gR' h0 s))⟩
theorem shr_pair {L P R : IvP} {k p r : Iv} (hL : IvW L k) (gL : IvN 4 L.1 L.2) (hP : IvW P p) (gP : IvN 4 P.1 P.2) (hR : IvW R r) (gR : IvN 4 R.1 R.2) (s : subI L P) : ∃ (E F : Int) (u v : Iv) (x : Bool), ((E != 0) = true ∨ (E != 0) = false ∧ (F == 0) = true ∧ x = true) ∧ AnsI 20 r k u E ∧ AnsI 20 r p v F ∧ InI u v x := by
  have gL' := gL.up (M := 60) (by omega)
  have gP' := gP.up (M := 60) (by omega)
  have gR' := gR.up (M := 32) (by omega)
  by_cases h1 : (shK L).1 ≤ (shK L).2
  · have h2 := (shT_sub s h1).1
    obtain ⟨u, hu⟩ : ∃ u, IvW (shrP R L) u := ⟨_, IvW.mk _⟩
    obtain ⟨v, hv⟩ : ∃ v, IvW (shrP R P) v := ⟨_, IvW.mk _⟩
    have t1 := shT_ok h1
    have t2 := shT_ok h2
    exact ⟨0, 0, u, v, true, .inr ⟨rfl, rfl, rfl⟩, fun w Z1 Z2 Z3 Z4 A B C D a b c d u1 u2 u3 u4 => ishr_w hR gR' hL gL' u1 u2 u3 u4 h1 hu, fun w Z1 Z2 Z3 Z4 A B C D a b c d u1 u2 u3 u4 => ishr_w hR gR' hP gP' u1 u2 u3 u4 h2 hv, fun w Z1 Z2 Z3 Z4 A B C D a b c d u1 u2 u3 u4 => iin_w hu (ivn_shr (M := 1) (gR.up (by omega)) t1.2.1.1 t1.2.2.1 (by omega)) hv (ivn_shr (M := 1) (gR.up (by omega)) t2.2.1.1 t2.2.2.1 (by omega)) u1 u2 u3 u4 (decide_eq_true (shrP_sub (gR.up (by omega)) s h1))⟩
  · by_cases h2 : (shK P).1 ≤ (shK P).2
    · obtain ⟨v, hv⟩ : ∃ v, IvW (shrP R P) v := ⟨_, IvW.mk _⟩
      have t2 := shT_ok h2
      exact ⟨2, 0, zeroI, v, _, .inl rfl, AnsI.zero (fun w Z1 Z2 Z3 Z4 A B C D a b c d u1 u2 u3 u4 => ishr_none hR gR' hL gL' u1 u2 u3 u4 h1), fun w Z1 Z2 Z3 Z4 A B C D a b c d u1 u2 u3 u4 => ishr_w hR gR' hP gP' u1 u2 u3 u4 h2 hv, fun w Z1 Z2 Z3 Z4 A B C D a b c d u1 u2 u3 u4 => iin_w zero_w (zero_n.up (by omega)) hv (ivn_shr (M := 1) (gR.up (by omega)) t2.2.1.1 t2.2.2.1 (by omega)) u1 u2 u3 u4 rfl⟩
    · exact ⟨2, 2, zeroI, zeroI, true, .inl rfl, AnsI.zero (fun w Z1 Z2 Z3 Z4 A B C D a b c d u1 u2 u3 u4 => ishr_none hR gR' hL gL' u1 u2 u3 u4 h1), AnsI.zero (fun w Z1 Z2 Z3 Z4 A B C D a b c d u1 u2 u3 u4 => ishr_none hR gR' hP gP' u1 u2 u3 u4 h2), zeroI_in⟩

end Go.Proofs.YtennphechbngcaaGreat

namespace Go.Proofs.YtennphechbngcaaGreat
open Go.RowKit
set_option linter.unusedVariables false
set_option linter.unusedSimpArgs false
set_option maxRecDepth 100000 in
set_option maxHeartbeats 8000000 in
theorem lsd_g1 {w : World} {a b n m : Value} {p q : Iv} {sn sm : Bool} {ln lm : List Nat} (ha : IsItv w old a p) (hb : IsItv w old b q) (hn : IsI w old n sn ln) (hm : IsI w old m sm lm) (k1 : gtI p 4 = true) : Calls Tryz.prog 3 #[a, b, n, m] w fun e w' => e = .returned (.bool true) ∧ Below w.heap.size w w' := by
  obtain ⟨A0, a0, B0, b0, rfl, u0, u1⟩ := ha
  obtain ⟨A1, a1, B1, b1, rfl, u2, u3⟩ := hb
  obtain ⟨_, rfl, C0, c0, rfl, u4⟩ := hn
  obtain ⟨_, rfl, C1, c1, rfl, u5⟩ := hm
  have AL := Lib.hid alive16
  have G1 := Lib.hid (fun (W : World) (h : Below w.heap.size w W) => g16_w (u0.below h) (u1.below h))
  rw [k1] at G1
  obtain ⟨hq, hb0⟩ := Q4.new w (.bool p.n0) (.bool p.s0) (.slice A0 p.l0.length a0) (.bool p.n1) (.bool p.s1) (.slice B0 p.l1.length b0) (.bool q.n0) (.bool q.s0) (.slice A1 q.l0.length a1) (.bool q.n1) (.bool q.s1) (.slice B1 q.l1.length b1) (.bool sn) (.slice C0 ln.length c0) (.bool sm) (.slice C1 lm.length c1) 29 25
  have bxs := Lib.hid hq
  have HB := Lib.hid hb0
  clear hq hb0
  clear u0 u1 u2 u3 u4 u5 k1
  go_enter Tryz.func3, Tryz.ntmps3
  go_wp2_with fail
  refine (AL.out _).mono ?_
  rintro e w1 ⟨rfl, hc⟩
  replace bxs := Lib.hid (bxs.out.below hc)
  replace HB := Lib.hid (from_ HB.out hc)
  clear hc
  clear AL
  obtain ⟨y1_0, y1_1, y1_2, y1_3, y1_4, y1_5, _, _, _, _, _, _, _⟩ := id bxs.out.1
  go_wp2_with fail
  refine (G1.out _ HB.out).mono ?_
  rintro e w2 ⟨rfl, hc⟩
  clear y1_0 y1_1 y1_2 y1_3 y1_4 y1_5
  replace bxs := Lib.hid (bxs.out.below hc)
  replace HB := Lib.hid (from_ HB.out hc)
  clear hc
  go_wp2
  go_ret
  exact ⟨by first | rfl | trivial, HB.out⟩
set_option maxRecDepth 100000 in
set_option maxHeartbeats 8000000 in
theorem lsd_g2 {w : World} {a b n m : Value} {p q : Iv} {sn sm : Bool} {ln lm : List Nat} (ha : IsItv w old a p) (hb : IsItv w old b q) (hn : IsI w old n sn ln) (hm : IsI w old m sm lm) (k1 : gtI p 4 = false) (k2 : gtI q 4 = true) : Calls Tryz.prog 3 #[a, b, n, m] w fun e w' => e = .returned (.bool true) ∧ Below w.heap.size w w' := by
  obtain ⟨A0, a0, B0, b0, rfl, u0, u1⟩ := ha
  obtain ⟨A1, a1, B1, b1, rfl, u2, u3⟩ := hb
  obtain ⟨_, rfl, C0, c0, rfl, u4⟩ := hn
  obtain ⟨_, rfl, C1, c1, rfl, u5⟩ := hm
  have AL := Lib.hid alive16
  have G1 := Lib.hid (fun (W : World) (h : Below w.heap.size w W) => g16_w (u0.below h) (u1.below h))
  rw [k1] at G1
  have G2 := Lib.hid (fun (W : World) (h : Below w.heap.size w W) => g16_w (u2.below h) (u3.below h))
  rw [k2] at G2
  obtain ⟨hq, hb0⟩ := Q4.new w (.bool p.n0) (.bool p.s0) (.slice A0 p.l0.length a0) (.bool p.n1) (.bool p.s1) (.slice B0 p.l1.length b0) (.bool q.n0) (.bool q.s0) (.slice A1 q.l0.length a1) (.bool q.n1) (.bool q.s1) (.slice B1 q.l1.length b1) (.bool sn) (.slice C0 ln.length c0) (.bool sm) (.slice C1 lm.length c1) 29 25
  have bxs := Lib.hid hq
  have HB := Lib.hid hb0
  clear hq hb0
  clear u0 u1 u2 u3 u4 u5 k1 k2
  go_enter Tryz.func3, Tryz.ntmps3
  go_wp2_with fail
  refine (AL.out _).mono ?_
  rintro e w1 ⟨rfl, hc⟩
  replace bxs := Lib.hid (bxs.out.below hc)
  replace HB := Lib.hid (from_ HB.out hc)
  clear hc
  clear AL
  obtain ⟨y1_0, y1_1, y1_2, y1_3, y1_4, y1_5, _, _, _, _, _, _, _⟩ := id bxs.out.1
  go_wp2_with fail
  refine (G1.out _ HB.out).mono ?_
  rintro e w2 ⟨rfl, hc⟩
  clear y1_0 y1_1 y1_2 y1_3 y1_4 y1_5
  replace bxs := Lib.hid (bxs.out.below hc)
  replace HB := Lib.hid (from_ HB.out hc)
  clear hc
  obtain ⟨y3_0, y3_1, y3_2, y3_3, y3_4, y3_5, _, _, _, _, _, _, _⟩ := id bxs.out.2.1
  go_wp2_with fail
  refine (G2.out _ HB.out).mono ?_
  rintro e w4 ⟨rfl, hc⟩
  clear y3_0 y3_1 y3_2 y3_3 y3_4 y3_5
  replace bxs := Lib.hid (bxs.out.below hc)
  replace HB := Lib.hid (from_ HB.out hc)
  clear hc
  go_wp2
  go_ret
  exact ⟨by first | rfl | trivial, HB.out⟩
set_option maxRecDepth 100000 in
set_option maxHeartbeats 8000000 in
theorem lsd_g3 {w : World} {a b n m : Value} {p q : Iv} {sn sm : Bool} {ln lm : List Nat} (ha : IsItv w old a p) (hb : IsItv w old b q) (hn : IsI w old n sn ln) (hm : IsI w old m sm lm) (k1 : gtI p 4 = false) (k2 : gtI q 4 = false) (k3 : 4 < ln.length) : Calls Tryz.prog 3 #[a, b, n, m] w fun e w' => e = .returned (.bool true) ∧ Below w.heap.size w w' := by
  obtain ⟨A0, a0, B0, b0, rfl, u0, u1⟩ := ha
  obtain ⟨A1, a1, B1, b1, rfl, u2, u3⟩ := hb
  obtain ⟨_, rfl, C0, c0, rfl, u4⟩ := hn
  obtain ⟨_, rfl, C1, c1, rfl, u5⟩ := hm
  have AL := Lib.hid alive16
  have G1 := Lib.hid (fun (W : World) (h : Below w.heap.size w W) => g16_w (u0.below h) (u1.below h))
  rw [k1] at G1
  have G2 := Lib.hid (fun (W : World) (h : Below w.heap.size w W) => g16_w (u2.below h) (u3.below h))
  rw [k2] at G2
  obtain ⟨hq, hb0⟩ := Q4.new w (.bool p.n0) (.bool p.s0) (.slice A0 p.l0.length a0) (.bool p.n1) (.bool p.s1) (.slice B0 p.l1.length b0) (.bool q.n0) (.bool q.s0) (.slice A1 q.l0.length a1) (.bool q.n1) (.bool q.s1) (.slice B1 q.l1.length b1) (.bool sn) (.slice C0 ln.length c0) (.bool sm) (.slice C1 lm.length c1) 29 25
  have bxs := Lib.hid hq
  have HB := Lib.hid hb0
  clear hq hb0
  have d3 : decide ((4 : Int) < (ln.length : Int)) = true := decide_eq_true (by omega)
  clear u0 u1 u2 u3 u4 u5 k1 k2 k3
  generalize p.l0.length = LA at *
  generalize p.l1.length = LB at *
  generalize q.l0.length = LC at *
  generalize q.l1.length = LD at *
  generalize ln.length = LN at *
  generalize lm.length = LM at *
  go_enter Tryz.func3, Tryz.ntmps3
  go_wp2_with fail
  refine (AL.out _).mono ?_
  rintro e w1 ⟨rfl, hc⟩
  replace bxs := Lib.hid (bxs.out.below hc)
  replace HB := Lib.hid (from_ HB.out hc)
  clear hc
  clear AL
  obtain ⟨y1_0, y1_1, y1_2, y1_3, y1_4, y1_5, _, _, _, _, _, _, _⟩ := id bxs.out.1
  go_wp2_with fail
  refine (G1.out _ HB.out).mono ?_
  rintro e w2 ⟨rfl, hc⟩
  clear y1_0 y1_1 y1_2 y1_3 y1_4 y1_5
  replace bxs := Lib.hid (bxs.out.below hc)
  replace HB := Lib.hid (from_ HB.out hc)
  clear hc
  obtain ⟨y3_0, y3_1, y3_2, y3_3, y3_4, y3_5, _, _, _, _, _, _, _⟩ := id bxs.out.2.1
  go_wp2_with fail
  refine (G2.out _ HB.out).mono ?_
  rintro e w4 ⟨rfl, hc⟩
  clear y3_0 y3_1 y3_2 y3_3 y3_4 y3_5
  replace bxs := Lib.hid (bxs.out.below hc)
  replace HB := Lib.hid (from_ HB.out hc)
  clear hc
  obtain ⟨y5_0, y5_1, _, _, _⟩ := id bxs.out.2.2.1
  obtain ⟨y6_0, y6_1, _, _, _⟩ := id bxs.out.2.2.2
  go_wp2
  go_ret
  exact ⟨by first | rfl | trivial, HB.out⟩
set_option maxRecDepth 100000 in
set_option maxHeartbeats 8000000 in
theorem lsd_g4 {w : World} {a b n m : Value} {p q : Iv} {sn sm : Bool} {ln lm : List Nat} (ha : IsItv w old a p) (hb : IsItv w old b q) (hn : IsI w old n sn ln) (hm : IsI w old m sm lm) (k1 : gtI p 4 = false) (k2 : gtI q 4 = false) (k3 : ¬ 4 < ln.length) (k4 : 4 < lm.length) : Calls Tryz.prog 3 #[a, b, n, m] w fun e w' => e = .returned (.bool true) ∧ Below w.heap.size w w' := by
  obtain ⟨A0, a0, B0, b0, rfl, u0, u1⟩ := ha
  obtain ⟨A1, a1, B1, b1, rfl, u2, u3⟩ := hb
  obtain ⟨_, rfl, C0, c0, rfl, u4⟩ := hn
  obtain ⟨_, rfl, C1, c1, rfl, u5⟩ := hm
  have AL := Lib.hid alive16
  have G1 := Lib.hid (fun (W : World) (h : Below w.heap.size w W) => g16_w (u0.below h) (u1.below h))
  rw [k1] at G1
  have G2 := Lib.hid (fun (W : World) (h : Below w.heap.size w W) => g16_w (u2.below h) (u3.below h))
  rw [k2] at G2
  obtain ⟨hq, hb0⟩ := Q4.new w (.bool p.n0) (.bool p.s0) (.slice A0 p.l0.length a0) (.bool p.n1) (.bool p.s1) (.slice B0 p.l1.length b0) (.bool q.n0) (.bool q.s0) (.slice A1 q.l0.length a1) (.bool q.n1) (.bool q.s1) (.slice B1 q.l1.length b1) (.bool sn) (.slice C0 ln.length c0) (.bool sm) (.slice C1 lm.length c1) 29 25
  have bxs := Lib.hid hq
  have HB := Lib.hid hb0
  clear hq hb0
  have d3 : decide ((4 : Int) < (ln.length : Int)) = false := decide_eq_false (by omega)
  have d4 : decide ((4 : Int) < (lm.length : Int)) = true := decide_eq_true (by omega)
  clear u0 u1 u2 u3 u4 u5 k1 k2 k3 k4
  generalize p.l0.length = LA at *
  generalize p.l1.length = LB at *
  generalize q.l0.length = LC at *
  generalize q.l1.length = LD at *
  generalize ln.length = LN at *
  generalize lm.length = LM at *
  go_enter Tryz.func3, Tryz.ntmps3
  go_wp2_with fail
  refine (AL.out _).mono ?_
  rintro e w1 ⟨rfl, hc⟩
  replace bxs := Lib.hid (bxs.out.below hc)
  replace HB := Lib.hid (from_ HB.out hc)
  clear hc
  clear AL
  obtain ⟨y1_0, y1_1, y1_2, y1_3, y1_4, y1_5, _, _, _, _, _, _, _⟩ := id bxs.out.1
  go_wp2_with fail
  refine (G1.out _ HB.out).mono ?_
  rintro e w2 ⟨rfl, hc⟩
  clear y1_0 y1_1 y1_2 y1_3 y1_4 y1_5
  replace bxs := Lib.hid (bxs.out.below hc)
  replace HB := Lib.hid (from_ HB.out hc)
  clear hc
  obtain ⟨y3_0, y3_1, y3_2, y3_3, y3_4, y3_5, _, _, _, _, _, _, _⟩ := id bxs.out.2.1
  go_wp2_with fail
  refine (G2.out _ HB.out).mono ?_
  rintro e w4 ⟨rfl, hc⟩
  clear y3_0 y3_1 y3_2 y3_3 y3_4 y3_5
  replace bxs := Lib.hid (bxs.out.below hc)
  replace HB := Lib.hid (from_ HB.out hc)
  clear hc
  obtain ⟨y5_0, y5_1, _, _, _⟩ := id bxs.out.2.2.1
  obtain ⟨y6_0, y6_1, _, _, _⟩ := id bxs.out.2.2.2
  go_wp2
  go_ret
  exact ⟨by first | rfl | trivial, HB.out⟩
set_option maxRecDepth 100000 in
set_option maxHeartbeats 8000000 in
theorem lsd_h {w : World} {a b n m : Value} {p q : Iv} {sn sm : Bool} {ln lm : List Nat} (ha : IsItv w old a p) (hb : IsItv w old b q) (hn : IsI w old n sn ln) (hm : IsI w old m sm lm) (k1 : gtI p 4 = false) (k2 : gtI q 4 = false) (k3 : ln.length ≤ 4) (k4 : lm.length ≤ 4) (hbad : ∀ (r1 r2 : Bool) (e1 e2 : Int), (e1 = 0 ∧ okA p.n0 p.s0 p.l0 p.n1 p.s1 p.l1 = true ∧ okI sn ln = true ∧ r1 = decide (loV p.n0 p.s0 p.l0 ≤ zof sn ln ∧ zof sn ln ≤ hiV p.n1 p.s1 p.l1)) → (e2 = 0 ∧ okA q.n0 q.s0 q.l0 q.n1 q.s1 q.l1 = true ∧ okI sm lm = true ∧ r2 = decide (loV q.n0 q.s0 q.l0 ≤ zof sm lm ∧ zof sm lm ≤ hiV q.n1 q.s1 q.l1)) → (r1 && r2) = false) : Calls Tryz.prog 3 #[a, b, n, m] w fun e w' => e = .returned (.bool true) ∧ Below w.heap.size w w' := by
  obtain ⟨A0, a0, B0, b0, rfl, u0, u1⟩ := ha
  obtain ⟨A1, a1, B1, b1, rfl, u2, u3⟩ := hb
  obtain ⟨_, rfl, C0, c0, rfl, u4⟩ := hn
  obtain ⟨_, rfl, C1, c1, rfl, u5⟩ := hm
  have AL := Lib.hid alive16
  obtain ⟨m0, m1⟩ := gtI_no k1
  obtain ⟨m2, m3⟩ := gtI_no k2
  obtain ⟨rH1, eH1, cH1, tH1⟩ := has_any (n0 := p.n0) (s0 := p.s0) (n1 := p.n1) (s1 := p.s1) (t := sn) (show p.l0.length ≤ 60 by omega) (show p.l1.length ≤ 60 by omega) (show ln.length ≤ 60 by omega)
  obtain ⟨rH2, eH2, cH2, tH2⟩ := has_any (n0 := q.n0) (s0 := q.s0) (n1 := q.n1) (s1 := q.s1) (t := sm) (show q.l0.length ≤ 60 by omega) (show q.l1.length ≤ 60 by omega) (show lm.length ≤ 60 by omega)
  have G1 := Lib.hid (fun (W : World) (h : Below w.heap.size w W) => g16_w (u0.below h) (u1.below h))
  rw [k1] at G1
  have G2 := Lib.hid (fun (W : World) (h : Below w.heap.size w W) => g16_w (u2.below h) (u3.below h))
  rw [k2] at G2
  have H1 : Hid (∀ W, Below w.heap.size w W → Calls Tryz.prog 8 #[.agg #[.bool p.n0, .bool p.s0, .slice A0 p.l0.length a0, .bool p.n1, .bool p.s1, .slice B0 p.l1.length b0], .agg #[.bool sn, .slice C0 ln.length c0]] W fun e w' => e = .returned (.tuple #[.bool rH1, .int .i64 eH1]) ∧ Below W.heap.size W w') := fun W h => cH1 W _ _ _ _ _ _ _ _ _ (u0.below h) (u1.below h) (u4.below h)
  have H2 : Hid (∀ W, Below w.heap.size w W → Calls Tryz.prog 8 #[.agg #[.bool q.n0, .bool q.s0, .slice A1 q.l0.length a1, .bool q.n1, .bool q.s1, .slice B1 q.l1.length b1], .agg #[.bool sm, .slice C1 lm.length c1]] W fun e w' => e = .returned (.tuple #[.bool rH2, .int .i64 eH2]) ∧ Below W.heap.size W w') := fun W h => cH2 W _ _ _ _ _ _ _ _ _ (u2.below h) (u3.below h) (u5.below h)
  have d3 : decide ((4 : Int) < (ln.length : Int)) = false := decide_eq_false (by omega)
  have d4 : decide ((4 : Int) < (lm.length : Int)) = false := decide_eq_false (by omega)
  obtain ⟨hq, hb0⟩ := Q4.new w (.bool p.n0) (.bool p.s0) (.slice A0 p.l0.length a0) (.bool p.n1) (.bool p.s1) (.slice B0 p.l1.length b0) (.bool q.n0) (.bool q.s0) (.slice A1 q.l0.length a1) (.bool q.n1) (.bool q.s1) (.slice B1 q.l1.length b1) (.bool sn) (.slice C0 ln.length c0) (.bool sm) (.slice C1 lm.length c1) 29 25
  have bxs := Lib.hid hq
  have HB := Lib.hid hb0
  clear hq hb0
  have hcs : (eH1 != 0) = true ∨ ((eH1 != 0) = false ∧ (eH2 != 0) = true) ∨ ((eH1 != 0) = false ∧ (eH2 != 0) = false ∧ rH1 = false) ∨ ((eH1 != 0) = false ∧ (eH2 != 0) = false ∧ rH1 = true ∧ rH2 = false) := by
    rcases tH1 with t1 | t1
    · rcases tH2 with t2 | t2
      · cases e1 : rH1
        · exact .inr (.inr (.inl ⟨by rw [t1.1]; rfl, by rw [t2.1]; rfl, rfl⟩))
        · cases e2 : rH2
          · exact .inr (.inr (.inr ⟨by rw [t1.1]; rfl, by rw [t2.1]; rfl, rfl, rfl⟩))
          · exact absurd (hbad rH1 rH2 eH1 eH2 t1 t2) (by rw [e1, e2]; decide)
      · exact .inr (.inl ⟨by rw [t1.1]; rfl, by rw [t2]; rfl⟩)
    · exact .inl (by rw [t1]; rfl)
  have HCS := Lib.hid hcs
  clear u0 u1 u2 u3 u4 u5 k1 k2 k3 k4 m0 m1 m2 m3 cH1 cH2 tH1 tH2 hcs hbad
  generalize p.l0.length = LA at *
  generalize p.l1.length = LB at *
  generalize q.l0.length = LC at *
  generalize q.l1.length = LD at *
  generalize ln.length = LN at *
  generalize lm.length = LM at *
  go_enter Tryz.func3, Tryz.ntmps3
  go_wp2_with fail
  refine (AL.out _).mono ?_
  rintro e w1 ⟨rfl, hc⟩
  replace bxs := Lib.hid (bxs.out.below hc)
  replace HB := Lib.hid (from_ HB.out hc)
  clear hc
  clear AL
  obtain ⟨y1_0, y1_1, y1_2, y1_3, y1_4, y1_5, _, _, _, _, _, _, _⟩ := id bxs.out.1
  go_wp2_with fail
  refine (G1.out _ HB.out).mono ?_
  rintro e w2 ⟨rfl, hc⟩
  clear y1_0 y1_1 y1_2 y1_3 y1_4 y1_5
  replace bxs := Lib.hid (bxs.out.below hc)
  replace HB := Lib.hid (from_ HB.out hc)
  clear hc
  obtain ⟨y3_0, y3_1, y3_2, y3_3, y3_4, y3_5, _, _, _, _, _, _, _⟩ := id bxs.out.2.1
  go_wp2_with fail
  refine (G2.out _ HB.out).mono ?_
  rintro e w4 ⟨rfl, hc⟩
  clear y3_0 y3_1 y3_2 y3_3 y3_4 y3_5
  replace bxs := Lib.hid (bxs.out.below hc)
  replace HB := Lib.hid (from_ HB.out hc)
  clear hc
  obtain ⟨y5_0, y5_1, _, _, _⟩ := id bxs.out.2.2.1
  obtain ⟨y6_0, y6_1, _, _, _⟩ := id bxs.out.2.2.2
  obtain ⟨y7_0, y7_1, y7_2, y7_3, y7_4, y7_5, _, _, _, _, _, _, _⟩ := id bxs.out.1
  clear G1 G2
  go_wp2_with fail
  refine (H1.out _ HB.out).mono ?_
  rintro e w8 ⟨rfl, hc⟩
  clear y5_0 y5_1 y6_0 y6_1 y7_0 y7_1 y7_2 y7_3 y7_4 y7_5
  replace bxs := Lib.hid (bxs.out.below hc)
  replace HB := Lib.hid (from_ HB.out hc)
  clear hc H1
  obtain ⟨y9_0, y9_1, y9_2, y9_3, y9_4, y9_5, _, _, _, _, _, _, _⟩ := id bxs.out.2.1
  obtain ⟨y10_0, y10_1, _, _, _⟩ := id bxs.out.2.2.2
  go_wp2_with fail
  refine (H2.out _ HB.out).mono ?_
  rintro e w11 ⟨rfl, hc⟩
  clear y9_0 y9_1 y9_2 y9_3 y9_4 y9_5 y10_0 y10_1
  replace bxs := Lib.hid (bxs.out.below hc)
  replace HB := Lib.hid (from_ HB.out hc)
  clear hc
  clear H2
  rcases HCS.out with t1 | ⟨t1, t2⟩ | ⟨t1, t2, rfl⟩ | ⟨t1, t2, rfl, rfl⟩
  all_goals
    clear HCS
    go_wp2
    go_ret
    exact ⟨by first | rfl | trivial, HB.out⟩

end Go.Proofs.YtennphechbngcaaGreat

namespace Go.Proofs.YtennphechbngcaaGreat
open Go.RowKit
set_option linter.unusedVariables false
set_option linter.unusedSimpArgs false
set_option maxRecDepth 100000 in
set_option maxHeartbeats 8000000 in
theorem lsd_n {w : World} {a b n m : Value} {p q : Iv} {sn sm : Bool} {ln lm : List Nat} {P Q : IvP} {x y : Int} (ha : IsItv w old a p) (hb : IsItv w old b q) (hn : IsI w old n sn ln) (hm : IsI w old m sm lm) (k1 : gtI p 4 = false) (k2 : gtI q 4 = false) (k3 : ln.length ≤ 4) (k4 : lm.length ≤ 4) (hP : IvW P p) (gP : IvN 4 P.1 P.2) (hQ : IvW Q q) (gQ : IvN 4 Q.1 Q.2) (nx : Nm x sn ln) (ny : Nm y sm lm) (ix : inI x P) (iy : inI y Q) (hs : smB sm lm = false ∨ (smB sm lm = true ∧ ¬ 0 ≤ smX sm lm) ∨ (smB sm lm = true ∧ 0 ≤ smX sm lm ∧ ¬ smX sm lm ≤ 63)) : Calls Tryz.prog 3 #[a, b, n, m] w fun e w' => e = .returned (.bool true) ∧ Below w.heap.size w w' := by
  obtain ⟨A0, a0, B0, b0, rfl, u0, u1⟩ := ha
  obtain ⟨A1, a1, B1, b1, rfl, u2, u3⟩ := hb
  obtain ⟨_, rfl, C0, c0, rfl, u4⟩ := hn
  obtain ⟨_, rfl, C1, c1, rfl, u5⟩ := hm
  have AL := Lib.hid alive16
  obtain ⟨m0, m1⟩ := gtI_no k1
  obtain ⟨m2, m3⟩ := gtI_no k2
  have bx := nm_bound nx k3
  have by_ := nm_bound ny k4
  have G1 := Lib.hid (fun (W : World) (h : Below w.heap.size w W) => g16_w (u0.below h) (u1.below h))
  rw [k1] at G1
  have G2 := Lib.hid (fun (W : World) (h : Below w.heap.size w W) => g16_w (u2.below h) (u3.below h))
  rw [k2] at G2
  have HH1 := Lib.hid (fun (W : World) (h : Below w.heap.size w W) => has_w hP gP (by omega) nx (by omega) (u0.below h) (u1.below h) (u4.below h) (decide_eq_true ix))
  have HH2 := Lib.hid (fun (W : World) (h : Below w.heap.size w W) => has_w hQ gQ (by omega) ny (by omega) (u2.below h) (u3.below h) (u5.below h) (decide_eq_true iy))
  have d3 : decide ((4 : Int) < (ln.length : Int)) = false := decide_eq_false (by omega)
  have d4 : decide ((4 : Int) < (lm.length : Int)) = false := decide_eq_false (by omega)
  obtain ⟨rA, hA⟩ : ∃ r, IvW (ivA P Q) r := ⟨_, IvW.mk _⟩
  have gA := ivA_ok gP gQ (by omega)
  obtain ⟨sA, lA, nA⟩ : ∃ s l, Nm (x + y) s l := ⟨_, _, rfl, rfl⟩
  have qA := nm_lenN nA (N := 5) (bound_add bx by_)
  have ADD := Lib.hid (fun (W : World) (h : Below w.heap.size w W) => iadd_w hP hQ hA gP gQ (by omega) (u0.below h) (u1.below h) (u2.below h) (u3.below h))
  have WADD := Lib.hid (fun (W : World) (h : Below w.heap.size w W) => wadd_n nx ny nA rfl (by omega) (by omega) (u4.below h) (u5.below h))
  have HSA := Lib.hid (fun (W : World) (Z1 Z2 Z3 : Zone) (A B C : Option Addr) (a b c : Nat) (v0 : U64s W Z1 A a rA.l0) (v1 : U64s W Z2 B b rA.l1) (v2 : U64s W Z3 C c lA) => l16has_w hA gA (by omega) nA (by omega) v0 v1 v2 (add_in gP gQ (by omega) bx by_ ix iy))
  obtain ⟨rM, hM⟩ : ∃ r, IvW (ivM P Q) r := ⟨_, IvW.mk _⟩
  have gM := ivM_ok gP gQ (by omega)
  obtain ⟨sM, lM, nM⟩ : ∃ s l, Nm (x * y) s l := ⟨_, _, rfl, rfl⟩
  have qM := nm_lenN nM (N := 8) (wmul_bd bx by_)
  have MUL := Lib.hid (fun (W : World) (h : Below w.heap.size w W) => imul_w hP hQ hM gP gQ (by omega) (by omega) (u0.below h) (u1.below h) (u2.below h) (u3.below h))
  have WMUL := Lib.hid (fun (W : World) (h : Below w.heap.size w W) => wmul_n nx ny nM rfl (by omega) (by omega) (u4.below h) (u5.below h))
  have HSM := Lib.hid (fun (W : World) (Z1 Z2 Z3 : Zone) (A B C : Option Addr) (a b c : Nat) (v0 : U64s W Z1 A a rM.l0) (v1 : U64s W Z2 B b rM.l1) (v2 : U64s W Z3 C c lM) => l16has_w hM gM (by omega) nM (by omega) v0 v1 v2 (mul_in (gP.up (by omega)) (gQ.up (by omega)) (bound_up bx (by omega)) (bound_up by_ (by omega)) ix iy))
  obtain ⟨rN, hN⟩ : ∃ r, IvW (ivNg P) r := ⟨_, IvW.mk _⟩
  have gN := ivNg_ok gP
  obtain ⟨sN, lN, nN⟩ : ∃ s l, Nm (-x) s l := ⟨_, _, rfl, rfl⟩
  have qN := nm_lenN nN (N := 4) (by omega)
  have NEG := Lib.hid (fun (W : World) (h : Below w.heap.size w W) => ineg_w hP hN gP (by omega) (u0.below h) (u1.below h))
  have WNEG := Lib.hid (fun (W : World) (h : Below w.heap.size w W) => wneg_n nx nN rfl (by omega) (u4.below h))
  have HSN := Lib.hid (fun (W : World) (Z1 Z2 Z3 : Zone) (A B C : Option Addr) (a b c : Nat) (v0 : U64s W Z1 A a rN.l0) (v1 : U64s W Z2 B b rN.l1) (v2 : U64s W Z3 C c lN) => l16has_w hN gN (by omega) nN (by omega) v0 v1 v2 (neg_in ix))
  have KH := Lib.hid (show IvW P p ∧ IvN 4 P.1 P.2 ∧ IvW Q q ∧ IvN 4 Q.1 Q.2 ∧ Nm x sn ln ∧ Nm y sm lm ∧ inI x P ∧ inI y Q ∧ ln.length ≤ 4 ∧ lm.length ≤ 4 from ⟨hP, gP, hQ, gQ, nx, ny, ix, iy, k3, k4⟩)
  have KU := Lib.hid (And.intro u0 (And.intro u1 (And.intro u2 (And.intro u3 (And.intro u4 u5)))))
  have HZ := Lib.hid (show ((lm.length : Int) == 0) = true ∨ (((lm.length : Int) == 0) = false ∧ y ≠ 0 ∧ sn = sm) ∨ (((lm.length : Int) == 0) = false ∧ y ≠ 0 ∧ sn ≠ sm) by
    by_cases hz : lm.length = 0
    · exact .inl (beq_iff_eq.2 (by omega))
    · have h1 : ((lm.length : Int) == 0) = false := beq_eq_false_iff_ne.2 (by omega)
      have h2 : y ≠ 0 := fun e => hz (by rw [ny.2, e]; rfl)
      by_cases h3 : sn = sm
      · exact .inr (.inl ⟨h1, h2, h3⟩)
      · exact .inr (.inr ⟨h1, h2, h3⟩))
  have SM := Lib.hid (fun (W : World) (h : Below w.heap.size w W) => l16small_any (s := sm) (l := lm) (u5.below h))
  have HCS := Lib.hid hs
  obtain ⟨X, hX⟩ : ∃ X, X = smX sm lm := ⟨_, rfl⟩
  rw [← hX] at SM HCS
  obtain ⟨sb, hsb⟩ : ∃ sb, sb = smB sm lm := ⟨_, rfl⟩
  rw [← hsb] at SM HCS
  clear hX hsb hs
  obtain ⟨hq, hb0⟩ := Q4.new w (.bool p.n0) (.bool p.s0) (.slice A0 p.l0.length a0) (.bool p.n1) (.bool p.s1) (.slice B0 p.l1.length b0) (.bool q.n0) (.bool q.s0) (.slice A1 q.l0.length a1) (.bool q.n1) (.bool q.s1) (.slice B1 q.l1.length b1) (.bool sn) (.slice C0 ln.length c0) (.bool sm) (.slice C1 lm.length c1) 29 25
  have bxs := Lib.hid hq
  have HB := Lib.hid hb0
  clear hq hb0
  clear u0 u1 u2 u3 u4 u5 k1 k2 k3 k4 m0 m1 m2 m3 hP gP hQ gQ nx ny ix iy bx by_ hA gA nA qA hM gM nM qM hN gN nN qN
  go_enter Tryz.func3, Tryz.ntmps3
  go_wp2_with fail
  refine (AL.out _).mono ?_
  rintro e w1 ⟨rfl, hc⟩
  replace bxs := Lib.hid (bxs.out.below hc)
  replace HB := Lib.hid (from_ HB.out hc)
  clear hc
  clear AL
  obtain ⟨y1_0, y1_1, y1_2, y1_3, y1_4, y1_5, _, _, _, _, _, _, _⟩ := id bxs.out.1
  go_wp2_with fail
  refine (G1.out _ HB.out).mono ?_
  rintro e w2 ⟨rfl, hc⟩
  clear y1_0 y1_1 y1_2 y1_3 y1_4 y1_5
  replace bxs := Lib.hid (bxs.out.below hc)
  replace HB := Lib.hid (from_ HB.out hc)
  clear hc
  obtain ⟨y3_0, y3_1, y3_2, y3_3, y3_4, y3_5, _, _, _, _, _, _, _⟩ := id bxs.out.2.1
  go_wp2_with fail
  refine (G2.out _ HB.out).mono ?_
  rintro e w4 ⟨rfl, hc⟩
  clear y3_0 y3_1 y3_2 y3_3 y3_4 y3_5
  replace bxs := Lib.hid (bxs.out.below hc)
  replace HB := Lib.hid (from_ HB.out hc)
  clear hc
  obtain ⟨y5_0, y5_1, _, _, _⟩ := id bxs.out.2.2.1
  obtain ⟨y6_0, y6_1, _, _, _⟩ := id bxs.out.2.2.2
  obtain ⟨y7_0, y7_1, y7_2, y7_3, y7_4, y7_5, _, _, _, _, _, _, _⟩ := id bxs.out.1
  clear G1 G2
  go_wp2_with fail
  refine (HH1.out _ HB.out).mono ?_
  rintro e w8 ⟨rfl, hc⟩
  clear y5_0 y5_1 y6_0 y6_1 y7_0 y7_1 y7_2 y7_3 y7_4 y7_5
  replace bxs := Lib.hid (bxs.out.below hc)
  replace HB := Lib.hid (from_ HB.out hc)
  clear hc HH1
  obtain ⟨y9_0, y9_1, y9_2, y9_3, y9_4, y9_5, _, _, _, _, _, _, _⟩ := id bxs.out.2.1
  obtain ⟨y10_0, y10_1, _, _, _⟩ := id bxs.out.2.2.2
  go_wp2_with fail
  refine (HH2.out _ HB.out).mono ?_
  rintro e w11 ⟨rfl, hc⟩
  clear y9_0 y9_1 y9_2 y9_3 y9_4 y9_5 y10_0 y10_1
  replace bxs := Lib.hid (bxs.out.below hc)
  replace HB := Lib.hid (from_ HB.out hc)
  clear hc
  clear HH2
  obtain ⟨y12_0, y12_1, y12_2, y12_3, y12_4, y12_5, _, _, _, _, _, _, _⟩ := id bxs.out.1
  obtain ⟨y13_0, y13_1, y13_2, y13_3, y13_4, y13_5, _, _, _, _, _, _, _⟩ := id bxs.out.2.1
  go_wp2_with fail
  refine (ADD.out _ HB.out).mono ?_
  rintro e w14 ⟨X1, x1, Y1, z1, rfl, v1, t1, hc⟩
  clear y12_0 y12_1 y12_2 y12_3 y12_4 y12_5 y13_0 y13_1 y13_2 y13_3 y13_4 y13_5
  go_upto_region 9 with fail
  have hax : Below w14.heap.size w14 (w14.alloc (.cells #[.bool rA.n0, .bool rA.s0, .slice X1 rA.l0.length x1, .bool rA.n1, .bool rA.s1, .slice Y1 rA.l1.length z1] 29)) := (Below.refl _ _).alloc (Nat.le_refl _) _
  have bA := Lib.hid (Box6.new w14 (.bool rA.n0) (.bool rA.s0) (.slice X1 rA.l0.length x1) (.bool rA.n1) (.bool rA.s1) (.slice Y1 rA.l1.length z1) 29)
  obtain ⟨gbA, hgbA⟩ : ∃ g, g = w14.heap.size := ⟨_, rfl⟩
  rw [← hgbA] at bA
  have hc8 := from_ hc hax
  have V1 := Lib.hid (v1.below hax)
  have T1 := Lib.hid (t1.below hax)
  replace bxs := Lib.hid (bxs.out.below hc8)
  replace HB := Lib.hid (from_ HB.out hc8)
  clear hc hax hc8 v1 t1
  generalize hWx : w14.alloc (.cells #[.bool rA.n0, .bool rA.s0, .slice X1 rA.l0.length x1, .bool rA.n1, .bool rA.s1, .slice Y1 rA.l1.length z1] 29) = W15 at *
  try simp only [← hgbA]
  clear hWx hgbA
  obtain ⟨y16_0, y16_1, _, _, _⟩ := id bxs.out.2.2.1
  obtain ⟨y17_0, y17_1, _, _, _⟩ := id bxs.out.2.2.2
  go_wp2_with fail
  refine (WADD.out _ HB.out).mono ?_
  rintro e w18 ⟨D2, d2, rfl, o2, hc⟩
  clear y16_0 y16_1 y17_0 y17_1
  go_upto_region 10 with fail
  have hax : Below w18.heap.size w18 (w18.alloc (.cells #[.bool sA, .slice D2 lA.length d2] 25)) := (Below.refl _ _).alloc (Nat.le_refl _) _
  have bB := Lib.hid (Box.new w18 (.bool sA) (.slice D2 lA.length d2) 25)
  obtain ⟨gbB, hgbB⟩ : ∃ g, g = w18.heap.size := ⟨_, rfl⟩
  rw [← hgbB] at bB
  have hc8 := from_ hc hax
  have O2 := Lib.hid (o2.below hax)
  replace bxs := Lib.hid (bxs.out.below hc8)
  replace bA := Lib.hid (bA.out.below hc8)
  replace V1 := Lib.hid (V1.out.below hc8)
  replace T1 := Lib.hid (T1.out.below hc8)
  replace HB := Lib.hid (from_ HB.out hc8)
  clear hc hax hc8 o2
  generalize hWx : w18.alloc (.cells #[.bool sA, .slice D2 lA.length d2] 25) = W19 at *
  try simp only [← hgbB]
  clear hWx hgbB
  obtain ⟨y20_0, y20_1, y20_2, y20_3, y20_4, y20_5, _, _, _, _, _, _, _⟩ := id bxs.out.1
  obtain ⟨y21_0, y21_1, y21_2, y21_3, y21_4, y21_5, _, _, _, _, _, _, _⟩ := id bxs.out.2.1
  go_wp2_with fail
  refine (MUL.out _ HB.out).mono ?_
  rintro e w22 ⟨X3, x3, Y3, z3, rfl, v3, t3, hc⟩
  clear y20_0 y20_1 y20_2 y20_3 y20_4 y20_5 y21_0 y21_1 y21_2 y21_3 y21_4 y21_5
  go_upto_region 11 with fail
  have hax : Below w22.heap.size w22 (w22.alloc (.cells #[.bool rM.n0, .bool rM.s0, .slice X3 rM.l0.length x3, .bool rM.n1, .bool rM.s1, .slice Y3 rM.l1.length z3] 29)) := (Below.refl _ _).alloc (Nat.le_refl _) _
  have bC := Lib.hid (Box6.new w22 (.bool rM.n0) (.bool rM.s0) (.slice X3 rM.l0.length x3) (.bool rM.n1) (.bool rM.s1) (.slice Y3 rM.l1.length z3) 29)
  obtain ⟨gbC, hgbC⟩ : ∃ g, g = w22.heap.size := ⟨_, rfl⟩
  rw [← hgbC] at bC
  have hc8 := from_ hc hax
  have V3 := Lib.hid (v3.below hax)
  have T3 := Lib.hid (t3.below hax)
  replace bxs := Lib.hid (bxs.out.below hc8)
  replace bA := Lib.hid (bA.out.below hc8)
  replace bB := Lib.hid (bB.out.below hc8)
  replace V1 := Lib.hid (V1.out.below hc8)
  replace T1 := Lib.hid (T1.out.below hc8)
  replace O2 := Lib.hid (O2.out.below hc8)
  replace HB := Lib.hid (from_ HB.out hc8)
  clear hc hax hc8 v3 t3
  generalize hWx : w22.alloc (.cells #[.bool rM.n0, .bool rM.s0, .slice X3 rM.l0.length x3, .bool rM.n1, .bool rM.s1, .slice Y3 rM.l1.length z3] 29) = W23 at *
  try simp only [← hgbC]
  clear hWx hgbC
  obtain ⟨y24_0, y24_1, _, _, _⟩ := id bxs.out.2.2.1
  obtain ⟨y25_0, y25_1, _, _, _⟩ := id bxs.out.2.2.2
  go_wp2_with fail
  refine (WMUL.out _ HB.out).mono ?_
  rintro e w26 ⟨D4, d4, rfl, o4, hc⟩
  clear y24_0 y24_1 y25_0 y25_1
  go_upto_region 12 with fail
  have hax : Below w26.heap.size w26 (w26.alloc (.cells #[.bool sM, .slice D4 lM.length d4] 25)) := (Below.refl _ _).alloc (Nat.le_refl _) _
  have bD := Lib.hid (Box.new w26 (.bool sM) (.slice D4 lM.length d4) 25)
  obtain ⟨gbD, hgbD⟩ : ∃ g, g = w26.heap.size := ⟨_, rfl⟩
  rw [← hgbD] at bD
  have hc8 := from_ hc hax
  have O4 := Lib.hid (o4.below hax)
  replace bxs := Lib.hid (bxs.out.below hc8)
  replace bA := Lib.hid (bA.out.below hc8)
  replace bB := Lib.hid (bB.out.below hc8)
  replace bC := Lib.hid (bC.out.below hc8)
  replace V1 := Lib.hid (V1.out.below hc8)
  replace T1 := Lib.hid (T1.out.below hc8)
  replace O2 := Lib.hid (O2.out.below hc8)
  replace V3 := Lib.hid (V3.out.below hc8)
  replace T3 := Lib.hid (T3.out.below hc8)
  replace HB := Lib.hid (from_ HB.out hc8)
  clear hc hax hc8 o4
  generalize hWx : w26.alloc (.cells #[.bool sM, .slice D4 lM.length d4] 25) = W27 at *
  try simp only [← hgbD]
  clear hWx hgbD
  obtain ⟨y28_0, y28_1, y28_2, y28_3, y28_4, y28_5, _, _, _, _, _, _, _⟩ := id bxs.out.1
  go_wp2_with fail
  refine (NEG.out _ HB.out).mono ?_
  rintro e w29 ⟨X5, x5, Y5, z5, rfl, v5, t5, hc⟩
  clear y28_0 y28_1 y28_2 y28_3 y28_4 y28_5
  go_upto_region 13 with fail
  have hax : Below w29.heap.size w29 (w29.alloc (.cells #[.bool rN.n0, .bool rN.s0, .slice X5 rN.l0.length x5, .bool rN.n1, .bool rN.s1, .slice Y5 rN.l1.length z5] 29)) := (Below.refl _ _).alloc (Nat.le_refl _) _
  have bE := Lib.hid (Box6.new w29 (.bool rN.n0) (.bool rN.s0) (.slice X5 rN.l0.length x5) (.bool rN.n1) (.bool rN.s1) (.slice Y5 rN.l1.length z5) 29)
  obtain ⟨gbE, hgbE⟩ : ∃ g, g = w29.heap.size := ⟨_, rfl⟩
  rw [← hgbE] at bE
  have hc8 := from_ hc hax
  have V5 := Lib.hid (v5.below hax)
  have T5 := Lib.hid (t5.below hax)
  replace bxs := Lib.hid (bxs.out.below hc8)
  replace bA := Lib.hid (bA.out.below hc8)
  replace bB := Lib.hid (bB.out.below hc8)
  replace bC := Lib.hid (bC.out.below hc8)
  replace bD := Lib.hid (bD.out.below hc8)
  replace V1 := Lib.hid (V1.out.below hc8)
  replace T1 := Lib.hid (T1.out.below hc8)
  replace O2 := Lib.hid (O2.out.below hc8)
  replace V3 := Lib.hid (V3.out.below hc8)
  replace T3 := Lib.hid (T3.out.below hc8)
  replace O4 := Lib.hid (O4.out.below hc8)
  replace HB := Lib.hid (from_ HB.out hc8)
  clear hc hax hc8 v5 t5
  generalize hWx : w29.alloc (.cells #[.bool rN.n0, .bool rN.s0, .slice X5 rN.l0.length x5, .bool rN.n1, .bool rN.s1, .slice Y5 rN.l1.length z5] 29) = W30 at *
  try simp only [← hgbE]
  clear hWx hgbE
  obtain ⟨y31_0, y31_1, _, _, _⟩ := id bxs.out.2.2.1
  go_wp2_with fail
  refine (WNEG.out _ HB.out).mono ?_
  rintro e w32 ⟨D6, d6, rfl, o6, hc⟩
  clear y31_0 y31_1
  go_upto_region 14 with fail
  have hax : Below w32.heap.size w32 (w32.alloc (.cells #[.bool sN, .slice D6 lN.length d6] 25)) := (Below.refl _ _).alloc (Nat.le_refl _) _
  have bF := Lib.hid (Box.new w32 (.bool sN) (.slice D6 lN.length d6) 25)
  obtain ⟨gbF, hgbF⟩ : ∃ g, g = w32.heap.size := ⟨_, rfl⟩
  rw [← hgbF] at bF
  have hc8 := from_ hc hax
  have O6 := Lib.hid (o6.below hax)
  replace bxs := Lib.hid (bxs.out.below hc8)
  replace bA := Lib.hid (bA.out.below hc8)
  replace bB := Lib.hid (bB.out.below hc8)
  replace bC := Lib.hid (bC.out.below hc8)
  replace bD := Lib.hid (bD.out.below hc8)
  replace bE := Lib.hid (bE.out.below hc8)
  replace V1 := Lib.hid (V1.out.below hc8)
  replace T1 := Lib.hid (T1.out.below hc8)
  replace O2 := Lib.hid (O2.out.below hc8)
  replace V3 := Lib.hid (V3.out.below hc8)
  replace T3 := Lib.hid (T3.out.below hc8)
  replace O4 := Lib.hid (O4.out.below hc8)
  replace V5 := Lib.hid (V5.out.below hc8)
  replace T5 := Lib.hid (T5.out.below hc8)
  replace HB := Lib.hid (from_ HB.out hc8)
  clear hc hax hc8 o6
  generalize hWx : w32.alloc (.cells #[.bool sN, .slice D6 lN.length d6] 25) = W33 at *
  try simp only [← hgbF]
  clear hWx hgbF
  clear ADD WADD MUL WMUL NEG WNEG
  obtain ⟨y34_0, y34_1, y34_2, y34_3, y34_4, y34_5, _, _, _, _, _, _, _⟩ := id bA.out
  obtain ⟨y35_0, y35_1, _, _, _⟩ := id bB.out
  go_wp2_with fail
  refine (HSA.out _ _ _ _ _ _ _ _ _ _ V1.out T1.out O2.out).mono ?_
  rintro e w36 ⟨rfl, hc⟩
  clear y34_0 y34_1 y34_2 y34_3 y34_4 y34_5 y35_0 y35_1
  clear bA bB V1 T1 O2
  replace bxs := Lib.hid (bxs.out.below hc)
  replace bC := Lib.hid (bC.out.below hc)
  replace bD := Lib.hid (bD.out.below hc)
  replace bE := Lib.hid (bE.out.below hc)
  replace bF := Lib.hid (bF.out.below hc)
  replace V3 := Lib.hid (V3.out.below hc)
  replace T3 := Lib.hid (T3.out.below hc)
  replace O4 := Lib.hid (O4.out.below hc)
  replace V5 := Lib.hid (V5.out.below hc)
  replace T5 := Lib.hid (T5.out.below hc)
  replace O6 := Lib.hid (O6.out.below hc)
  replace HB := Lib.hid (from_ HB.out hc)
  clear hc
  clear HSA
  obtain ⟨y37_0, y37_1, y37_2, y37_3, y37_4, y37_5, _, _, _, _, _, _, _⟩ := id bC.out
  obtain ⟨y38_0, y38_1, _, _, _⟩ := id bD.out
  go_wp2_with fail
  refine (HSM.out _ _ _ _ _ _ _ _ _ _ V3.out T3.out O4.out).mono ?_
  rintro e w39 ⟨rfl, hc⟩
  clear y37_0 y37_1 y37_2 y37_3 y37_4 y37_5 y38_0 y38_1
  clear bC bD V3 T3 O4
  replace bxs := Lib.hid (bxs.out.below hc)
  replace bE := Lib.hid (bE.out.below hc)
  replace bF := Lib.hid (bF.out.below hc)
  replace V5 := Lib.hid (V5.out.below hc)
  replace T5 := Lib.hid (T5.out.below hc)
  replace O6 := Lib.hid (O6.out.below hc)
  replace HB := Lib.hid (from_ HB.out hc)
  clear hc
  clear HSM
  obtain ⟨y40_0, y40_1, y40_2, y40_3, y40_4, y40_5, _, _, _, _, _, _, _⟩ := id bE.out
  obtain ⟨y41_0, y41_1, _, _, _⟩ := id bF.out
  go_wp2_with fail
  refine (HSN.out _ _ _ _ _ _ _ _ _ _ V5.out T5.out O6.out).mono ?_
  rintro e w42 ⟨rfl, hc⟩
  clear y40_0 y40_1 y40_2 y40_3 y40_4 y40_5 y41_0 y41_1
  clear bE bF V5 T5 O6
  replace bxs := Lib.hid (bxs.out.below hc)
  replace HB := Lib.hid (from_ HB.out hc)
  clear hc
  clear HSN
  obtain ⟨y43_0, y43_1, _, _, _⟩ := id bxs.out.2.2.2
  go_wp2_with fail
  refine (SM.out _ HB.out).mono ?_
  rintro e w44 ⟨rfl, hc⟩
  clear y43_0 y43_1
  replace bxs := Lib.hid (bxs.out.below hc)
  replace HB := Lib.hid (from_ HB.out hc)
  clear hc
  clear SM
  rcases HCS.out with t1 | ⟨t1, t2⟩ | ⟨t1, t2, t3⟩
  all_goals
    clear HCS
    (try have t4 : decide (0 ≤ X) = false := decide_eq_false (by omega))
    (try have t4 : decide (0 ≤ X) = true := decide_eq_true (by omega))
    (try have t5 : decide (X ≤ 63) = false := decide_eq_false (by omega))
    (try clear t3)
    (try clear t2)
    subst t1
    rcases HZ.out with dz | ⟨dz, hy0, hsg⟩ | ⟨dz, hy0, hsg⟩
    all_goals clear HZ
    · clear KH KU
      obtain ⟨y45_0, y45_1, _, _, _⟩ := id bxs.out.2.2.2
      go_wp2
      go_ret
      exact ⟨by first | rfl | trivial, HB.out⟩
    · subst hsg
      obtain ⟨hP, gP, hQ, gQ, nx, ny, ix, iy, k3, k4⟩ := KH.out
      obtain ⟨u0, u1, u2, u3, u4, u5⟩ := KU.out
      have bx := nm_bound nx k3
      have by_ := nm_bound ny k4
      clear KH KU
      obtain ⟨sQ, lQ, nQ⟩ : ∃ s l, Nm (Int.tdiv x y) s l := ⟨_, _, rfl, rfl⟩
      have bQ := wtdiv_bd (b := y) bx
      have qQ := nm_lenN nQ (N := 4) bQ
      obtain ⟨sT, lT, nT⟩ : ∃ s l, Nm (Int.tdiv x y * y) s l := ⟨_, _, rfl, rfl⟩
      have qT := nm_lenN nT (N := 8) (wmul_bd bQ by_)
      obtain ⟨sR, lR, nR⟩ : ∃ s l, Nm (x - Int.tdiv x y * y) s l := ⟨_, _, rfl, rfl⟩
      have qR := nm_lenN nR (N := 4) (wtmod_bd bx)
      have pne := parts_ne hy0 iy
      have h60 := wN_le (show 60 ≤ 64 by omega)
      have bx60 := bound_up (M := 60) bx (by omega)
      have by60 := bound_up (M := 60) by_ (by omega)
      obtain ⟨rD, hD⟩ : ∃ r, IvW (ivD P Q) r := ⟨_, IvW.mk _⟩
      have gD := ivD_ok gP gQ (by omega) (by omega) pne
      obtain ⟨rO, hO⟩ : ∃ r, IvW (modP P Q) r := ⟨_, IvW.mk _⟩
      have gO := ivn_mod gP gQ (fun h => pne ((parts_nil gQ.le).2 h)) (by omega)
      have DIV := Lib.hid (fun (W : World) (h : Below w.heap.size w W) => idiv_w hP (gP.up (by omega)) hQ (gQ.up (by omega)) (u0.below h) (u1.below h) (u2.below h) (u3.below h) pne hD)
      have MOD := Lib.hid (fun (W : World) (h : Below w.heap.size w W) => imod_w hP (gP.up (by omega)) hQ (gQ.up (by omega)) (u0.below h) (u1.below h) (u2.below h) (u3.below h) pne hO)
      have HSD := Lib.hid (fun (W : World) (Z1 Z2 Z3 : Zone) (A B C : Option Addr) (a b c : Nat) (v0 : U64s W Z1 A a rD.l0) (v1 : U64s W Z2 B b rD.l1) (v2 : U64s W Z3 C c lQ) => l16has_w hD gD (by omega) nQ (by omega) v0 v1 v2 (div_in (gP.up (by omega)) (gQ.up (by omega)) hy0 bx60 by60 ix iy))
      have HSO := Lib.hid (fun (W : World) (Z1 Z2 Z3 : Zone) (A B C : Option Addr) (a b c : Nat) (v0 : U64s W Z1 A a rO.l0) (v1 : U64s W Z2 B b rO.l1) (v2 : U64s W Z3 C c lR) => l16has_w hO gO (by omega) nR (by omega) v0 v1 v2 (mod_in gP gQ (by omega) hy0 ix.1 ix.2 iy.1 iy.2 (by omega) (by omega)))
      have TM := Lib.hid (fun (W : World) (h : Below w.heap.size w W) (Z : Zone) (C : Option Addr) (c : Nat) (v : U64s W Z C c lQ) => wmul_n nQ ny nT rfl (by omega) (by omega) v (u5.below h))
      have SU := Lib.hid (fun (W : World) (h : Below w.heap.size w W) (Z : Zone) (C : Option Addr) (c : Nat) (v : U64s W Z C c lT) => wsub_n nx nT nR rfl (by omega) (by omega) (u4.below h) v)
      have nq1 : Nm (rq x y true) sQ lQ := by rw [quo_same nx ny rfl]; exact nQ
      have FL := Lib.hid (fun (W : World) (h : Below w.heap.size w W) => wfloor_m nx ny hy0 nq1 (by omega) (u4.below h) (u5.below h))
      clear nQ bQ qQ nT qT nR qR pne h60 bx60 by60 hD gD hO gO hy0 nq1 hP gP hQ gQ nx ny ix iy u0 u1 u2 u3 u4 u5 k3 k4 bx by_
      obtain ⟨y45_0, y45_1, _, _, _⟩ := id bxs.out.2.2.1
      obtain ⟨y46_0, y46_1, _, _, _⟩ := id bxs.out.2.2.2
      go_wp2_with fail
      refine (FL.out _ HB.out).mono ?_
      rintro e w47 ⟨Dq, dq, rfl, oq, hc⟩
      clear y45_0 y45_1 y46_0 y46_1
      go_upto_region 32 with fail
      have hax : Below w47.heap.size w47 (w47.alloc (.cells #[.bool sQ, .slice Dq lQ.length dq] 25)) := (Below.refl _ _).alloc (Nat.le_refl _) _
      have bQ := Lib.hid (Box.new w47 (.bool sQ) (.slice Dq lQ.length dq) 25)
      obtain ⟨gbQ, hgbQ⟩ : ∃ g, g = w47.heap.size := ⟨_, rfl⟩
      rw [← hgbQ] at bQ
      have hc8 := from_ hc hax
      have Oq := Lib.hid (oq.below hax)
      replace bxs := Lib.hid (bxs.out.below hc8)
      replace HB := Lib.hid (from_ HB.out hc8)
      clear hc hax hc8 oq
      generalize hWx : w47.alloc (.cells #[.bool sQ, .slice Dq lQ.length dq] 25) = W48 at *
      try simp only [← hgbQ]
      clear hWx hgbQ
      clear FL
      obtain ⟨y49_0, y49_1, _, _, _⟩ := id bQ.out
      obtain ⟨y50_0, y50_1, _, _, _⟩ := id bxs.out.2.2.2
      obtain ⟨y51_0, y51_1, _, _, _⟩ := id bxs.out.2.2.1
      go_wp2_with fail
      refine (TM.out _ HB.out _ _ _ Oq.out).mono ?_
      rintro e w52 ⟨Dt, dt, rfl, ot, hc⟩
      clear y49_0 y49_1 y50_0 y50_1 y51_0 y51_1
      go_upto_region 35 with fail
      have hax : Below w52.heap.size w52 (w52.alloc (.cells #[.bool sT, .slice Dt lT.length dt] 25)) := (Below.refl _ _).alloc (Nat.le_refl _) _
      have bT := Lib.hid (Box.new w52 (.bool sT) (.slice Dt lT.length dt) 25)
      obtain ⟨gbT, hgbT⟩ : ∃ g, g = w52.heap.size := ⟨_, rfl⟩
      rw [← hgbT] at bT
      have hc8 := from_ hc hax
      have Ot := Lib.hid (ot.below hax)
      replace bxs := Lib.hid (bxs.out.below hc8)
      replace bQ := Lib.hid (bQ.out.below hc8)
      replace Oq := Lib.hid (Oq.out.below hc8)
      replace HB := Lib.hid (from_ HB.out hc8)
      clear hc hax hc8 ot
      generalize hWx : w52.alloc (.cells #[.bool sT, .slice Dt lT.length dt] 25) = W53 at *
      try simp only [← hgbT]
      clear hWx hgbT
      obtain ⟨y54_0, y54_1, _, _, _⟩ := id bxs.out.2.2.1
      obtain ⟨y55_0, y55_1, _, _, _⟩ := id bT.out
      go_wp2_with fail
      refine (SU.out _ HB.out _ _ _ Ot.out).mono ?_
      rintro e w56 ⟨Dr, dr, rfl, or, hc⟩
      clear y54_0 y54_1 y55_0 y55_1
      clear bT Ot
      go_upto_region 36 with fail
      have hax : Below w56.heap.size w56 (w56.alloc (.cells #[.bool sR, .slice Dr lR.length dr] 25)) := (Below.refl _ _).alloc (Nat.le_refl _) _
      have bR := Lib.hid (Box.new w56 (.bool sR) (.slice Dr lR.length dr) 25)
      obtain ⟨gbR, hgbR⟩ : ∃ g, g = w56.heap.size := ⟨_, rfl⟩
      rw [← hgbR] at bR
      have hc8 := from_ hc hax
      have Or := Lib.hid (or.below hax)
      replace bxs := Lib.hid (bxs.out.below hc8)
      replace bQ := Lib.hid (bQ.out.below hc8)
      replace Oq := Lib.hid (Oq.out.below hc8)
      replace HB := Lib.hid (from_ HB.out hc8)
      clear hc hax hc8 or
      generalize hWx : w56.alloc (.cells #[.bool sR, .slice Dr lR.length dr] 25) = W57 at *
      try simp only [← hgbR]
      clear hWx hgbR
      clear TM SU
      obtain ⟨y58_0, y58_1, y58_2, y58_3, y58_4, y58_5, _, _, _, _, _, _, _⟩ := id bxs.out.1
      obtain ⟨y59_0, y59_1, y59_2, y59_3, y59_4, y59_5, _, _, _, _, _, _, _⟩ := id bxs.out.2.1
      go_wp2_with fail
      refine (DIV.out _ HB.out).mono ?_
      rintro e w60 ⟨Xu, xu, Yu, zu, rfl, vu, tu, hc⟩
      clear y58_0 y58_1 y58_2 y58_3 y58_4 y58_5 y59_0 y59_1 y59_2 y59_3 y59_4 y59_5
      go_upto_region 37 with fail
      have hax : Below w60.heap.size w60 (w60.alloc (.cells #[.bool rD.n0, .bool rD.s0, .slice Xu rD.l0.length xu, .bool rD.n1, .bool rD.s1, .slice Yu rD.l1.length zu] 29)) := (Below.refl _ _).alloc (Nat.le_refl _) _
      have bU := Lib.hid (Box6.new w60 (.bool rD.n0) (.bool rD.s0) (.slice Xu rD.l0.length xu) (.bool rD.n1) (.bool rD.s1) (.slice Yu rD.l1.length zu) 29)
      obtain ⟨gbU, hgbU⟩ : ∃ g, g = w60.heap.size := ⟨_, rfl⟩
      rw [← hgbU] at bU
      have hc8 := from_ hc hax
      have Vu := Lib.hid (vu.below hax)
      have Tu := Lib.hid (tu.below hax)
      replace bxs := Lib.hid (bxs.out.below hc8)
      replace bQ := Lib.hid (bQ.out.below hc8)
      replace bR := Lib.hid (bR.out.below hc8)
      replace Oq := Lib.hid (Oq.out.below hc8)
      replace Or := Lib.hid (Or.out.below hc8)
      replace HB := Lib.hid (from_ HB.out hc8)
      clear hc hax hc8 vu tu
      generalize hWx : w60.alloc (.cells #[.bool rD.n0, .bool rD.s0, .slice Xu rD.l0.length xu, .bool rD.n1, .bool rD.s1, .slice Yu rD.l1.length zu] 29) = W61 at *
      try simp only [← hgbU]
      clear hWx hgbU
      obtain ⟨y62_0, y62_1, y62_2, y62_3, y62_4, y62_5, _, _, _, _, _, _, _⟩ := id bxs.out.1
      obtain ⟨y63_0, y63_1, y63_2, y63_3, y63_4, y63_5, _, _, _, _, _, _, _⟩ := id bxs.out.2.1
      go_wp2_with fail
      refine (MOD.out _ HB.out).mono ?_
      rintro e w64 ⟨Xw, xw, Yw, zw, rfl, vw, tw, hc⟩
      clear y62_0 y62_1 y62_2 y62_3 y62_4 y62_5 y63_0 y63_1 y63_2 y63_3 y63_4 y63_5
      go_upto_region 38 with fail
      have hax : Below w64.heap.size w64 (w64.alloc (.cells #[.bool rO.n0, .bool rO.s0, .slice Xw rO.l0.length xw, .bool rO.n1, .bool rO.s1, .slice Yw rO.l1.length zw] 29)) := (Below.refl _ _).alloc (Nat.le_refl _) _
      have bW := Lib.hid (Box6.new w64 (.bool rO.n0) (.bool rO.s0) (.slice Xw rO.l0.length xw) (.bool rO.n1) (.bool rO.s1) (.slice Yw rO.l1.length zw) 29)
      obtain ⟨gbW, hgbW⟩ : ∃ g, g = w64.heap.size := ⟨_, rfl⟩
      rw [← hgbW] at bW
      have hc8 := from_ hc hax
      have Vw := Lib.hid (vw.below hax)
      have Tw := Lib.hid (tw.below hax)
      replace bxs := Lib.hid (bxs.out.below hc8)
      replace bQ := Lib.hid (bQ.out.below hc8)
      replace bR := Lib.hid (bR.out.below hc8)
      replace bU := Lib.hid (bU.out.below hc8)
      replace Oq := Lib.hid (Oq.out.below hc8)
      replace Or := Lib.hid (Or.out.below hc8)
      replace Vu := Lib.hid (Vu.out.below hc8)
      replace Tu := Lib.hid (Tu.out.below hc8)
      replace HB := Lib.hid (from_ HB.out hc8)
      clear hc hax hc8 vw tw
      generalize hWx : w64.alloc (.cells #[.bool rO.n0, .bool rO.s0, .slice Xw rO.l0.length xw, .bool rO.n1, .bool rO.s1, .slice Yw rO.l1.length zw] 29) = W65 at *
      try simp only [← hgbW]
      clear hWx hgbW
      clear DIV MOD
      obtain ⟨y66_0, y66_1, y66_2, y66_3, y66_4, y66_5, _, _, _, _, _, _, _⟩ := id bU.out
      obtain ⟨y67_0, y67_1, _, _, _⟩ := id bQ.out
      go_wp2_with fail
      refine (HSD.out _ _ _ _ _ _ _ _ _ _ Vu.out Tu.out Oq.out).mono ?_
      rintro e w68 ⟨rfl, hc⟩
      clear y66_0 y66_1 y66_2 y66_3 y66_4 y66_5 y67_0 y67_1
      clear bU bQ Vu Tu Oq
      replace bxs := Lib.hid (bxs.out.below hc)
      replace bR := Lib.hid (bR.out.below hc)
      replace bW := Lib.hid (bW.out.below hc)
      replace Or := Lib.hid (Or.out.below hc)
      replace Vw := Lib.hid (Vw.out.below hc)
      replace Tw := Lib.hid (Tw.out.below hc)
      replace HB := Lib.hid (from_ HB.out hc)
      clear hc
      clear HSD
      obtain ⟨y69_0, y69_1, y69_2, y69_3, y69_4, y69_5, _, _, _, _, _, _, _⟩ := id bW.out
      obtain ⟨y70_0, y70_1, _, _, _⟩ := id bR.out
      go_wp2_with fail
      refine (HSO.out _ _ _ _ _ _ _ _ _ _ Vw.out Tw.out Or.out).mono ?_
      rintro e w71 ⟨rfl, hc⟩
      clear y69_0 y69_1 y69_2 y69_3 y69_4 y69_5 y70_0 y70_1
      clear bW bR Vw Tw Or
      replace bxs := Lib.hid (bxs.out.below hc)
      replace HB := Lib.hid (from_ HB.out hc)
      clear hc
      clear HSO
      go_wp2
      go_ret
      exact ⟨by first | rfl | trivial, HB.out⟩
    · obtain rfl : sm = !sn := by revert hsg; cases sn <;> cases sm <;> simp
      obtain ⟨hP, gP, hQ, gQ, nx, ny, ix, iy, k3, k4⟩ := KH.out
      obtain ⟨u0, u1, u2, u3, u4, u5⟩ := KU.out
      have bx := nm_bound nx k3
      have by_ := nm_bound ny k4
      clear KH KU
      obtain ⟨sQ, lQ, nQ⟩ : ∃ s l, Nm (Int.tdiv x y) s l := ⟨_, _, rfl, rfl⟩
      have bQ := wtdiv_bd (b := y) bx
      have qQ := nm_lenN nQ (N := 4) bQ
      obtain ⟨sT, lT, nT⟩ : ∃ s l, Nm (Int.tdiv x y * y) s l := ⟨_, _, rfl, rfl⟩
      have qT := nm_lenN nT (N := 8) (wmul_bd bQ by_)
      obtain ⟨sR, lR, nR⟩ : ∃ s l, Nm (x - Int.tdiv x y * y) s l := ⟨_, _, rfl, rfl⟩
      have qR := nm_lenN nR (N := 4) (wtmod_bd bx)
      have pne := parts_ne hy0 iy
      have h60 := wN_le (show 60 ≤ 64 by omega)
      have bx60 := bound_up (M := 60) bx (by omega)
      have by60 := bound_up (M := 60) by_ (by omega)
      obtain ⟨rD, hD⟩ : ∃ r, IvW (ivD P Q) r := ⟨_, IvW.mk _⟩
      have gD := ivD_ok gP gQ (by omega) (by omega) pne
      obtain ⟨rO, hO⟩ : ∃ r, IvW (modP P Q) r := ⟨_, IvW.mk _⟩
      have gO := ivn_mod gP gQ (fun h => pne ((parts_nil gQ.le).2 h)) (by omega)
      have DIV := Lib.hid (fun (W : World) (h : Below w.heap.size w W) => idiv_w hP (gP.up (by omega)) hQ (gQ.up (by omega)) (u0.below h) (u1.below h) (u2.below h) (u3.below h) pne hD)
      have MOD := Lib.hid (fun (W : World) (h : Below w.heap.size w W) => imod_w hP (gP.up (by omega)) hQ (gQ.up (by omega)) (u0.below h) (u1.below h) (u2.below h) (u3.below h) pne hO)
      have HSD := Lib.hid (fun (W : World) (Z1 Z2 Z3 : Zone) (A B C : Option Addr) (a b c : Nat) (v0 : U64s W Z1 A a rD.l0) (v1 : U64s W Z2 B b rD.l1) (v2 : U64s W Z3 C c lQ) => l16has_w hD gD (by omega) nQ (by omega) v0 v1 v2 (div_in (gP.up (by omega)) (gQ.up (by omega)) hy0 bx60 by60 ix iy))
      have HSO := Lib.hid (fun (W : World) (Z1 Z2 Z3 : Zone) (A B C : Option Addr) (a b c : Nat) (v0 : U64s W Z1 A a rO.l0) (v1 : U64s W Z2 B b rO.l1) (v2 : U64s W Z3 C c lR) => l16has_w hO gO (by omega) nR (by omega) v0 v1 v2 (mod_in gP gQ (by omega) hy0 ix.1 ix.2 iy.1 iy.2 (by omega) (by omega)))
      have TM := Lib.hid (fun (W : World) (h : Below w.heap.size w W) (Z : Zone) (C : Option Addr) (c : Nat) (v : U64s W Z C c lQ) => wmul_n nQ ny nT rfl (by omega) (by omega) v (u5.below h))
      have SU := Lib.hid (fun (W : World) (h : Below w.heap.size w W) (Z : Zone) (C : Option Addr) (c : Nat) (v : U64s W Z C c lT) => wsub_n nx nT nR rfl (by omega) (by omega) (u4.below h) v)
      obtain ⟨sF, lF, nF⟩ : ∃ s l, Nm (rq x y true) s l := ⟨_, _, rfl, rfl⟩
      have nq1 : Nm (rq x y false) sQ lQ := by rw [quo_diff nx ny (by cases sn <;> simp)]; exact nQ
      have FL := Lib.hid (fun (W : World) (h : Below w.heap.size w W) => wfloor_m nx ny hy0 nF (by omega) (u4.below h) (u5.below h))
      have CE := Lib.hid (fun (W : World) (h : Below w.heap.size w W) => wceil_m nx ny hy0 nq1 (by omega) (u4.below h) (u5.below h))
      clear nQ bQ qQ nT qT nR qR pne h60 bx60 by60 hD gD hO gO hy0 nq1 hP gP hQ gQ nx ny ix iy u0 u1 u2 u3 u4 u5 k3 k4 bx by_ nF hsg
      obtain ⟨y45_0, y45_1, _, _, _⟩ := id bxs.out.2.2.1
      obtain ⟨y46_0, y46_1, _, _, _⟩ := id bxs.out.2.2.2
      go_wp2_with fail
      refine (FL.out _ HB.out).mono ?_
      rintro e w47 ⟨Df, df, rfl, of, hc⟩
      clear y45_0 y45_1 y46_0 y46_1
      go_upto_region 32 with fail
      have hax : Below w47.heap.size w47 (w47.alloc (.cells #[.bool sF, .slice Df lF.length df] 25)) := (Below.refl _ _).alloc (Nat.le_refl _) _
      have bQ := Lib.hid (Box.new w47 (.bool sF) (.slice Df lF.length df) 25)
      obtain ⟨gbQ, hgbQ⟩ : ∃ g, g = w47.heap.size := ⟨_, rfl⟩
      rw [← hgbQ] at bQ
      have hc8 := from_ hc hax
      have hcz := hc.size
      have HbQ := Lib.hid (show w.heap.size + 4 ≤ gbQ by have h1 := bxs.out.2.2.2.lt; omega)
      clear hcz
      have Of := Lib.hid (of.below hax)
      replace bxs := Lib.hid (bxs.out.below hc8)
      replace HB := Lib.hid (from_ HB.out hc8)
      clear hc hax hc8 of
      generalize hWx : w47.alloc (.cells #[.bool sF, .slice Df lF.length df] 25) = W48 at *
      try simp only [← hgbQ]
      clear hWx hgbQ
      clear FL
      obtain ⟨y50_0, y50_1, _, _, _⟩ := id bxs.out.2.2.1
      obtain ⟨y51_0, y51_1, _, _, _⟩ := id bxs.out.2.2.2
      go_wp2_with fail
      refine (CE.out _ HB.out).mono ?_
      rintro e w52 ⟨Dq, dq, rfl, oq, hc⟩
      clear y50_0 y50_1 y51_0 y51_1
      clear Of
      have hltg := bQ.out.lt
      have hcz := hc.size
      replace bxs := Lib.hid (bxs.out.below hc)
      replace bQ := Lib.hid (bQ.out.below hc)
      replace HB := Lib.hid (from_ HB.out hc)
      have hP := bQ.out.put (w := w) HB.out (show w.heap.size ≤ gbQ by have h1 := HbQ.out; omega) (.bool sQ) (.slice Dq lQ.length dq)
      have Sbxs := Lib.hid (bxs.out.st2 HbQ.out (.bool sQ) (.slice Dq lQ.length dq))
      have SOq := Lib.hid (oq.st2 (g := gbQ) (fun (h : _ ≤ gbQ) => by omega) (.bool sQ) (.slice Dq lQ.length dq))
      obtain ⟨q0, q1, f0, f1, _⟩ := id bQ.out
      have SbQ := Lib.hid hP.box
      have SHB := Lib.hid hP.bel
      clear hP hltg hcz hc oq
      go_upto_region 34 with fail
      clear q0 q1 f0 f1
      replace bxs := Sbxs
      clear Sbxs
      replace bQ := SbQ
      clear SbQ
      replace HB := SHB
      clear SHB
      have Oq := SOq
      clear SOq
      generalize ((w52.setCell ⟨gbQ, 0, none⟩ (.bool sQ)).setCell ⟨gbQ, 1, none⟩ (.slice Dq lQ.length dq)) = W49 at *
      clear CE
      obtain ⟨y53_0, y53_1, _, _, _⟩ := id bQ.out
      obtain ⟨y54_0, y54_1, _, _, _⟩ := id bxs.out.2.2.2
      go_wp2_with fail
      refine (TM.out _ HB.out _ _ _ Oq.out).mono ?_
      rintro e w55 ⟨Dt, dt, rfl, ot, hc⟩
      clear y53_0 y53_1 y54_0 y54_1
      go_upto_region 35 with fail
      have hax : Below w55.heap.size w55 (w55.alloc (.cells #[.bool sT, .slice Dt lT.length dt] 25)) := (Below.refl _ _).alloc (Nat.le_refl _) _
      have bT := Lib.hid (Box.new w55 (.bool sT) (.slice Dt lT.length dt) 25)
      obtain ⟨gbT, hgbT⟩ : ∃ g, g = w55.heap.size := ⟨_, rfl⟩
      rw [← hgbT] at bT
      have hc8 := from_ hc hax
      have NbQ_bT := Lib.hid (show gbQ ≠ gbT by have h1 := bQ.out.lt; have h2 := hc.size; omega)
      have Ot := Lib.hid (ot.below hax)
      replace bxs := Lib.hid (bxs.out.below hc8)
      replace bQ := Lib.hid (bQ.out.below hc8)
      replace Oq := Lib.hid (Oq.out.below hc8)
      replace HB := Lib.hid (from_ HB.out hc8)
      clear hc hax hc8 ot
      generalize hWx : w55.alloc (.cells #[.bool sT, .slice Dt lT.length dt] 25) = W56 at *
      try simp only [← hgbT]
      clear hWx hgbT
      obtain ⟨y57_0, y57_1, _, _, _⟩ := id bxs.out.2.2.1
      obtain ⟨y58_0, y58_1, _, _, _⟩ := id bT.out
      go_wp2_with fail
      refine (SU.out _ HB.out _ _ _ Ot.out).mono ?_
      rintro e w59 ⟨Dr, dr, rfl, or, hc⟩
      clear y57_0 y57_1 y58_0 y58_1
      clear bT Ot
      go_upto_region 36 with fail
      have hax : Below w59.heap.size w59 (w59.alloc (.cells #[.bool sR, .slice Dr lR.length dr] 25)) := (Below.refl _ _).alloc (Nat.le_refl _) _
      have bR := Lib.hid (Box.new w59 (.bool sR) (.slice Dr lR.length dr) 25)
      obtain ⟨gbR, hgbR⟩ : ∃ g, g = w59.heap.size := ⟨_, rfl⟩
      rw [← hgbR] at bR
      have hc8 := from_ hc hax
      have NbQ_bR := Lib.hid (show gbQ ≠ gbR by have h1 := bQ.out.lt; have h2 := hc.size; omega)
      have Or := Lib.hid (or.below hax)
      replace bxs := Lib.hid (bxs.out.below hc8)
      replace bQ := Lib.hid (bQ.out.below hc8)
      replace Oq := Lib.hid (Oq.out.below hc8)
      replace HB := Lib.hid (from_ HB.out hc8)
      clear hc hax hc8 or
      generalize hWx : w59.alloc (.cells #[.bool sR, .slice Dr lR.length dr] 25) = W60 at *
      try simp only [← hgbR]
      clear hWx hgbR
      clear TM SU
      obtain ⟨y61_0, y61_1, y61_2, y61_3, y61_4, y61_5, _, _, _, _, _, _, _⟩ := id bxs.out.1
      obtain ⟨y62_0, y62_1, y62_2, y62_3, y62_4, y62_5, _, _, _, _, _, _, _⟩ := id bxs.out.2.1
      go_wp2_with fail
      refine (DIV.out _ HB.out).mono ?_
      rintro e w63 ⟨Xu, xu, Yu, zu, rfl, vu, tu, hc⟩
      clear y61_0 y61_1 y61_2 y61_3 y61_4 y61_5 y62_0 y62_1 y62_2 y62_3 y62_4 y62_5
      go_upto_region 37 with fail
      have hax : Below w63.heap.size w63 (w63.alloc (.cells #[.bool rD.n0, .bool rD.s0, .slice Xu rD.l0.length xu, .bool rD.n1, .bool rD.s1, .slice Yu rD.l1.length zu] 29)) := (Below.refl _ _).alloc (Nat.le_refl _) _
      have bU := Lib.hid (Box6.new w63 (.bool rD.n0) (.bool rD.s0) (.slice Xu rD.l0.length xu) (.bool rD.n1) (.bool rD.s1) (.slice Yu rD.l1.length zu) 29)
      obtain ⟨gbU, hgbU⟩ : ∃ g, g = w63.heap.size := ⟨_, rfl⟩
      rw [← hgbU] at bU
      have hc8 := from_ hc hax
      have NbQ_bU := Lib.hid (show gbQ ≠ gbU by have h1 := bQ.out.lt; have h2 := hc.size; omega)
      have Vu := Lib.hid (vu.below hax)
      have Tu := Lib.hid (tu.below hax)
      replace bxs := Lib.hid (bxs.out.below hc8)
      replace bQ := Lib.hid (bQ.out.below hc8)
      replace bR := Lib.hid (bR.out.below hc8)
      replace Oq := Lib.hid (Oq.out.below hc8)
      replace Or := Lib.hid (Or.out.below hc8)
      replace HB := Lib.hid (from_ HB.out hc8)
      clear hc hax hc8 vu tu
      generalize hWx : w63.alloc (.cells #[.bool rD.n0, .bool rD.s0, .slice Xu rD.l0.length xu, .bool rD.n1, .bool rD.s1, .slice Yu rD.l1.length zu] 29) = W64 at *
      try simp only [← hgbU]
      clear hWx hgbU
      obtain ⟨y65_0, y65_1, y65_2, y65_3, y65_4, y65_5, _, _, _, _, _, _, _⟩ := id bxs.out.1
      obtain ⟨y66_0, y66_1, y66_2, y66_3, y66_4, y66_5, _, _, _, _, _, _, _⟩ := id bxs.out.2.1
      go_wp2_with fail
      refine (MOD.out _ HB.out).mono ?_
      rintro e w67 ⟨Xw, xw, Yw, zw, rfl, vw, tw, hc⟩
      clear y65_0 y65_1 y65_2 y65_3 y65_4 y65_5 y66_0 y66_1 y66_2 y66_3 y66_4 y66_5
      go_upto_region 38 with fail
      have hax : Below w67.heap.size w67 (w67.alloc (.cells #[.bool rO.n0, .bool rO.s0, .slice Xw rO.l0.length xw, .bool rO.n1, .bool rO.s1, .slice Yw rO.l1.length zw] 29)) := (Below.refl _ _).alloc (Nat.le_refl _) _
      have bW := Lib.hid (Box6.new w67 (.bool rO.n0) (.bool rO.s0) (.slice Xw rO.l0.length xw) (.bool rO.n1) (.bool rO.s1) (.slice Yw rO.l1.length zw) 29)
      obtain ⟨gbW, hgbW⟩ : ∃ g, g = w67.heap.size := ⟨_, rfl⟩
      rw [← hgbW] at bW
      have hc8 := from_ hc hax
      have NbQ_bW := Lib.hid (show gbQ ≠ gbW by have h1 := bQ.out.lt; have h2 := hc.size; omega)
      have Vw := Lib.hid (vw.below hax)
      have Tw := Lib.hid (tw.below hax)
      replace bxs := Lib.hid (bxs.out.below hc8)
      replace bQ := Lib.hid (bQ.out.below hc8)
      replace bR := Lib.hid (bR.out.below hc8)
      replace bU := Lib.hid (bU.out.below hc8)
      replace Oq := Lib.hid (Oq.out.below hc8)
      replace Or := Lib.hid (Or.out.below hc8)
      replace Vu := Lib.hid (Vu.out.below hc8)
      replace Tu := Lib.hid (Tu.out.below hc8)
      replace HB := Lib.hid (from_ HB.out hc8)
      clear hc hax hc8 vw tw
      generalize hWx : w67.alloc (.cells #[.bool rO.n0, .bool rO.s0, .slice Xw rO.l0.length xw, .bool rO.n1, .bool rO.s1, .slice Yw rO.l1.length zw] 29) = W68 at *
      try simp only [← hgbW]
      clear hWx hgbW
      clear DIV MOD
      obtain ⟨y69_0, y69_1, y69_2, y69_3, y69_4, y69_5, _, _, _, _, _, _, _⟩ := id bU.out
      obtain ⟨y70_0, y70_1, _, _, _⟩ := id bQ.out
      go_wp2_with fail
      refine (HSD.out _ _ _ _ _ _ _ _ _ _ Vu.out Tu.out Oq.out).mono ?_
      rintro e w71 ⟨rfl, hc⟩
      clear y69_0 y69_1 y69_2 y69_3 y69_4 y69_5 y70_0 y70_1
      clear bU bQ Vu Tu Oq
      replace bxs := Lib.hid (bxs.out.below hc)
      replace bR := Lib.hid (bR.out.below hc)
      replace bW := Lib.hid (bW.out.below hc)
      replace Or := Lib.hid (Or.out.below hc)
      replace Vw := Lib.hid (Vw.out.below hc)
      replace Tw := Lib.hid (Tw.out.below hc)
      replace HB := Lib.hid (from_ HB.out hc)
      clear hc
      clear HSD
      obtain ⟨y72_0, y72_1, y72_2, y72_3, y72_4, y72_5, _, _, _, _, _, _, _⟩ := id bW.out
      obtain ⟨y73_0, y73_1, _, _, _⟩ := id bR.out
      go_wp2_with fail
      refine (HSO.out _ _ _ _ _ _ _ _ _ _ Vw.out Tw.out Or.out).mono ?_
      rintro e w74 ⟨rfl, hc⟩
      clear y72_0 y72_1 y72_2 y72_3 y72_4 y72_5 y73_0 y73_1
      clear bW bR Vw Tw Or
      replace bxs := Lib.hid (bxs.out.below hc)
      replace HB := Lib.hid (from_ HB.out hc)
      clear hc
      clear HSO
      go_wp2
      go_ret
      exact ⟨by first | rfl | trivial, HB.out⟩
set_option maxRecDepth 100000 in
set_option maxHeartbeats 8000000 in
theorem lsd_s {w : World} {a b n m : Value} {p q : Iv} {sn sm : Bool} {ln lm : List Nat} {P Q : IvP} {x y : Int} (ha : IsItv w old a p) (hb : IsItv w old b q) (hn : IsI w old n sn ln) (hm : IsI w old m sm lm) (k1 : gtI p 4 = false) (k2 : gtI q 4 = false) (k3 : ln.length ≤ 4) (k4 : lm.length ≤ 4) (hP : IvW P p) (gP : IvN 4 P.1 P.2) (hQ : IvW Q q) (gQ : IvN 4 Q.1 Q.2) (nx : Nm x sn ln) (ny : Nm y sm lm) (ix : inI x P) (iy : inI y Q) {k : Nat} (hk : k ≤ 63) (hyk : y = (k : Int)) (hsb : smB sm lm = true) (hsx : smX sm lm = (k : Int)) : Calls Tryz.prog 3 #[a, b, n, m] w fun e w' => e = .returned (.bool true) ∧ Below w.heap.size w w' := by
  obtain ⟨A0, a0, B0, b0, rfl, u0, u1⟩ := ha
  obtain ⟨A1, a1, B1, b1, rfl, u2, u3⟩ := hb
  obtain ⟨_, rfl, C0, c0, rfl, u4⟩ := hn
  obtain ⟨_, rfl, C1, c1, rfl, u5⟩ := hm
  have AL := Lib.hid alive16
  obtain ⟨m0, m1⟩ := gtI_no k1
  obtain ⟨m2, m3⟩ := gtI_no k2
  have bx := nm_bound nx k3
  have by_ := nm_bound ny k4
  have G1 := Lib.hid (fun (W : World) (h : Below w.heap.size w W) => g16_w (u0.below h) (u1.below h))
  rw [k1] at G1
  have G2 := Lib.hid (fun (W : World) (h : Below w.heap.size w W) => g16_w (u2.below h) (u3.below h))
  rw [k2] at G2
  have HH1 := Lib.hid (fun (W : World) (h : Below w.heap.size w W) => has_w hP gP (by omega) nx (by omega) (u0.below h) (u1.below h) (u4.below h) (decide_eq_true ix))
  have HH2 := Lib.hid (fun (W : World) (h : Below w.heap.size w W) => has_w hQ gQ (by omega) ny (by omega) (u2.below h) (u3.below h) (u5.below h) (decide_eq_true iy))
  have d3 : decide ((4 : Int) < (ln.length : Int)) = false := decide_eq_false (by omega)
  have d4 : decide ((4 : Int) < (lm.length : Int)) = false := decide_eq_false (by omega)
  obtain ⟨rA, hA⟩ : ∃ r, IvW (ivA P Q) r := ⟨_, IvW.mk _⟩
  have gA := ivA_ok gP gQ (by omega)
  obtain ⟨sA, lA, nA⟩ : ∃ s l, Nm (x + y) s l := ⟨_, _, rfl, rfl⟩
  have qA := nm_lenN nA (N := 5) (bound_add bx by_)
  have ADD := Lib.hid (fun (W : World) (h : Below w.heap.size w W) => iadd_w hP hQ hA gP gQ (by omega) (u0.below h) (u1.below h) (u2.below h) (u3.below h))
  have WADD := Lib.hid (fun (W : World) (h : Below w.heap.size w W) => wadd_n nx ny nA rfl (by omega) (by omega) (u4.below h) (u5.below h))
  have HSA := Lib.hid (fun (W : World) (Z1 Z2 Z3 : Zone) (A B C : Option Addr) (a b c : Nat) (v0 : U64s W Z1 A a rA.l0) (v1 : U64s W Z2 B b rA.l1) (v2 : U64s W Z3 C c lA) => l16has_w hA gA (by omega) nA (by omega) v0 v1 v2 (add_in gP gQ (by omega) bx by_ ix iy))
  obtain ⟨rM, hM⟩ : ∃ r, IvW (ivM P Q) r := ⟨_, IvW.mk _⟩
  have gM := ivM_ok gP gQ (by omega)
  obtain ⟨sM, lM, nM⟩ : ∃ s l, Nm (x * y) s l := ⟨_, _, rfl, rfl⟩
  have qM := nm_lenN nM (N := 8) (wmul_bd bx by_)
  have MUL := Lib.hid (fun (W : World) (h : Below w.heap.size w W) => imul_w hP hQ hM gP gQ (by omega) (by omega) (u0.below h) (u1.below h) (u2.below h) (u3.below h))
  have WMUL := Lib.hid (fun (W : World) (h : Below w.heap.size w W) => wmul_n nx ny nM rfl (by omega) (by omega) (u4.below h) (u5.below h))
  have HSM := Lib.hid (fun (W : World) (Z1 Z2 Z3 : Zone) (A B C : Option Addr) (a b c : Nat) (v0 : U64s W Z1 A a rM.l0) (v1 : U64s W Z2 B b rM.l1) (v2 : U64s W Z3 C c lM) => l16has_w hM gM (by omega) nM (by omega) v0 v1 v2 (mul_in (gP.up (by omega)) (gQ.up (by omega)) (bound_up bx (by omega)) (bound_up by_ (by omega)) ix iy))
  obtain ⟨rN, hN⟩ : ∃ r, IvW (ivNg P) r := ⟨_, IvW.mk _⟩
  have gN := ivNg_ok gP
  obtain ⟨sN, lN, nN⟩ : ∃ s l, Nm (-x) s l := ⟨_, _, rfl, rfl⟩
  have qN := nm_lenN nN (N := 4) (by omega)
  have NEG := Lib.hid (fun (W : World) (h : Below w.heap.size w W) => ineg_w hP hN gP (by omega) (u0.below h) (u1.below h))
  have WNEG := Lib.hid (fun (W : World) (h : Below w.heap.size w W) => wneg_n nx nN rfl (by omega) (u4.below h))
  have HSN := Lib.hid (fun (W : World) (Z1 Z2 Z3 : Zone) (A B C : Option Addr) (a b c : Nat) (v0 : U64s W Z1 A a rN.l0) (v1 : U64s W Z2 B b rN.l1) (v2 : U64s W Z3 C c lN) => l16has_w hN gN (by omega) nN (by omega) v0 v1 v2 (neg_in ix))
  have KH := Lib.hid (show IvW P p ∧ IvN 4 P.1 P.2 ∧ IvW Q q ∧ IvN 4 Q.1 Q.2 ∧ Nm x sn ln ∧ Nm y sm lm ∧ inI x P ∧ inI y Q ∧ ln.length ≤ 4 ∧ lm.length ≤ 4 from ⟨hP, gP, hQ, gQ, nx, ny, ix, iy, k3, k4⟩)
  have KU := Lib.hid (And.intro u0 (And.intro u1 (And.intro u2 (And.intro u3 (And.intro u4 u5)))))
  have HZ := Lib.hid (show ((lm.length : Int) == 0) = true ∨ (((lm.length : Int) == 0) = false ∧ y ≠ 0 ∧ sn = sm) ∨ (((lm.length : Int) == 0) = false ∧ y ≠ 0 ∧ sn ≠ sm) by
    by_cases hz : lm.length = 0
    · exact .inl (beq_iff_eq.2 (by omega))
    · have h1 : ((lm.length : Int) == 0) = false := beq_eq_false_iff_ne.2 (by omega)
      have h2 : y ≠ 0 := fun e => hz (by rw [ny.2, e]; rfl)
      by_cases h3 : sn = sm
      · exact .inr (.inl ⟨h1, h2, h3⟩)
      · exact .inr (.inr ⟨h1, h2, h3⟩))
  have e1 := two_pow (n := k) (by omega)
  have ew : wN 1 = 18446744073709551616 := rfl
  have bP : -wN 1 < ((2 ^ k : Nat) : Int) ∧ ((2 ^ k : Nat) : Int) < wN 1 := by omega
  have iyk : inI (k : Int) Q := by rw [← hyk]; exact iy
  have hle : (shK Q).1 ≤ (shK Q).2 := by have := sh_le iyk (b := (k : Int)) (by omega); omega
  have b32 := bound_up (M := 32) bx (by omega)
  have hT := shT_ok hle
  obtain ⟨rL, hL⟩ : ∃ r, IvW (shlP P Q) r := ⟨_, IvW.mk _⟩
  have gL : IvN 5 (shlP P Q).1 (shlP P Q).2 := ivM_ok gP hT.1 (by omega)
  obtain ⟨rR, hR⟩ : ∃ r, IvW (shrP P Q) r := ⟨_, IvW.mk _⟩
  have gR : IvN 4 (shrP P Q).1 (shrP P Q).2 := ivn_shr (M := 1) gP hT.2.1.1 hT.2.2.1 (by omega)
  obtain ⟨sU, lU, nU⟩ : ∃ s l, Nm (x * ((2 ^ k : Nat) : Int)) s l := ⟨_, _, rfl, rfl⟩
  have qU := nm_lenN nU (N := 5) (wmul_bd bx bP)
  obtain ⟨sV, lV, nV⟩ : ∃ s l, Nm (Int.fdiv x ((2 ^ k : Nat) : Int)) s l := ⟨_, _, rfl, rfl⟩
  have qV := nm_lenN nV (N := 4) (fdiv_bd bx e1.1)
  obtain ⟨sW, lW, nW⟩ : ∃ s l, Nm (((2 ^ k : Nat) : Int)) s l := ⟨_, _, rfl, rfl⟩
  have qW := nm_lenN nW (N := 1) bP
  have nV1 : Nm (rq x ((2 ^ k : Nat) : Int) true) sV lV := by rw [rq_down e1.1]; exact nV
  have UP := Lib.hid (fun (W : World) (h : Below w.heap.size w W) (Z : Zone) (C : Option Addr) (c : Nat) (v : U64s W Z C c lW) => wmul_n nx nW nU rfl (by omega) (by omega) (u4.below h) v)
  have DN := Lib.hid (fun (W : World) (h : Below w.heap.size w W) (Z : Zone) (C : Option Addr) (c : Nat) (v : U64s W Z C c lW) => wfloor_m nx nW (by omega) nV1 (by omega) (u4.below h) v)
  have SHL := Lib.hid (fun (W : World) (h : Below w.heap.size w W) => ishl_w hP (gP.up (by omega)) hQ (gQ.up (by omega)) (u0.below h) (u1.below h) (u2.below h) (u3.below h) hle hL)
  have SHR := Lib.hid (fun (W : World) (h : Below w.heap.size w W) => ishr_w hP (gP.up (by omega)) hQ (gQ.up (by omega)) (u0.below h) (u1.below h) (u2.below h) (u3.below h) hle hR)
  have HSU := Lib.hid (fun (W : World) (Z1 Z2 Z3 : Zone) (A B C : Option Addr) (a b c : Nat) (v0 : U64s W Z1 A a rL.l0) (v1 : U64s W Z2 B b rL.l1) (v2 : U64s W Z3 C c lU) => l16has_w hL gL (by omega) nU (by omega) v0 v1 v2 (shl_in (gP.up (by omega)) (by omega) b32 ix iyk))
  have HSV := Lib.hid (fun (W : World) (Z1 Z2 Z3 : Zone) (A B C : Option Addr) (a b c : Nat) (v0 : U64s W Z1 A a rR.l0) (v1 : U64s W Z2 B b rR.l1) (v2 : U64s W Z3 C c lV) => l16has_w hR gR (by omega) nV (by omega) v0 v1 v2 (shr_in (gP.up (by omega)) (by omega) b32 ix iyk))
  obtain ⟨sO, lO, nO⟩ : ∃ s l, Nm (1 : Int) s l := ⟨_, _, rfl, rfl⟩
  have OF := Lib.hid (fun (W : World) => wof_p (w := W) nO (by omega))
  have DB : Hid (∀ (W : World) (j : Nat) (s : Bool) (l : List Nat) (Z : Zone) (C : Option Addr) (c : Nat), j < k → Nm ((2 ^ j : Nat) : Int) s l → U64s W Z C c l → Calls Tryz.prog 10 #[.agg #[.bool s, .slice C l.length c], .agg #[.bool s, .slice C l.length c]] W fun e w' => ∃ Av cv, e = .returned (.tuple #[.agg #[.bool (decide (((2 ^ (j + 1) : Nat) : Int) < 0)), .slice Av (limbs (((2 ^ (j + 1) : Nat) : Int)).natAbs).length cv], .int .i64 0]) ∧ U64s w' (new W.heap.size) Av cv (limbs (((2 ^ (j + 1) : Nat) : Int)).natAbs) ∧ Below W.heap.size W w') := fun W j s l Z C c hj hn hu => by
    have f1 := two_pow (n := j) (by omega)
    have f2 := nm_lenN hn (N := 1) (by omega)
    exact wadd_n hn hn (Nm.mk' _) (by rw [Nat.pow_succ]; omega) (by omega) (by omega) hu hu
  have SM := Lib.hid (fun (W : World) (h : Below w.heap.size w W) => l16small_any (s := sm) (l := lm) (u5.below h))
  rw [hsb, hsx] at SM
  have Hk := Lib.hid hk
  have HN0 := Lib.hid (show Nm ((2 ^ 0 : Nat) : Int) sO lO from nO)
  have HNW := Lib.hid nW
  have dk : decide ((k : Int) ≤ 63) = true := decide_eq_true (by omega)
  have dk0 : decide (0 ≤ (k : Int)) = true := decide_eq_true (by omega)
  have DK := Lib.hid dk
  have DK0 := Lib.hid dk0
  obtain ⟨hq, hb0⟩ := Q4.new w (.bool p.n0) (.bool p.s0) (.slice A0 p.l0.length a0) (.bool p.n1) (.bool p.s1) (.slice B0 p.l1.length b0) (.bool q.n0) (.bool q.s0) (.slice A1 q.l0.length a1) (.bool q.n1) (.bool q.s1) (.slice B1 q.l1.length b1) (.bool sn) (.slice C0 ln.length c0) (.bool sm) (.slice C1 lm.length c1) 29 25
  have bxs := Lib.hid hq
  have HB := Lib.hid hb0
  clear hq hb0
  clear u0 u1 u2 u3 u4 u5 k1 k2 k3 k4 m0 m1 m2 m3 hP gP hQ gQ nx ny ix iy bx by_ hA gA nA qA hM gM nM qM hN gN nN qN
  clear dk dk0 e1 ew bP iyk hle b32 hT hL gL hR gR nU qU nV qV nW qW nV1 nO hk hyk hsb hsx
  go_enter Tryz.func3, Tryz.ntmps3
  go_wp2_with fail
  refine (AL.out _).mono ?_
  rintro e w1 ⟨rfl, hc⟩
  replace bxs := Lib.hid (bxs.out.below hc)
  replace HB := Lib.hid (from_ HB.out hc)
  clear hc
  clear AL
  obtain ⟨y1_0, y1_1, y1_2, y1_3, y1_4, y1_5, _, _, _, _, _, _, _⟩ := id bxs.out.1
  go_wp2_with fail
  refine (G1.out _ HB.out).mono ?_
  rintro e w2 ⟨rfl, hc⟩
  clear y1_0 y1_1 y1_2 y1_3 y1_4 y1_5
  replace bxs := Lib.hid (bxs.out.below hc)
  replace HB := Lib.hid (from_ HB.out hc)
  clear hc
  obtain ⟨y3_0, y3_1, y3_2, y3_3, y3_4, y3_5, _, _, _, _, _, _, _⟩ := id bxs.out.2.1
  go_wp2_with fail
  refine (G2.out _ HB.out).mono ?_
  rintro e w4 ⟨rfl, hc⟩
  clear y3_0 y3_1 y3_2 y3_3 y3_4 y3_5
  replace bxs := Lib.hid (bxs.out.below hc)
  replace HB := Lib.hid (from_ HB.out hc)
  clear hc
  obtain ⟨y5_0, y5_1, _, _, _⟩ := id bxs.out.2.2.1
  obtain ⟨y6_0, y6_1, _, _, _⟩ := id bxs.out.2.2.2
  obtain ⟨y7_0, y7_1, y7_2, y7_3, y7_4, y7_5, _, _, _, _, _, _, _⟩ := id bxs.out.1
  clear G1 G2
  go_wp2_with fail
  refine (HH1.out _ HB.out).mono ?_
  rintro e w8 ⟨rfl, hc⟩
  clear y5_0 y5_1 y6_0 y6_1 y7_0 y7_1 y7_2 y7_3 y7_4 y7_5
  replace bxs := Lib.hid (bxs.out.below hc)
  replace HB := Lib.hid (from_ HB.out hc)
  clear hc HH1
  obtain ⟨y9_0, y9_1, y9_2, y9_3, y9_4, y9_5, _, _, _, _, _, _, _⟩ := id bxs.out.2.1
  obtain ⟨y10_0, y10_1, _, _, _⟩ := id bxs.out.2.2.2
  go_wp2_with fail
  refine (HH2.out _ HB.out).mono ?_
  rintro e w11 ⟨rfl, hc⟩
  clear y9_0 y9_1 y9_2 y9_3 y9_4 y9_5 y10_0 y10_1
  replace bxs := Lib.hid (bxs.out.below hc)
  replace HB := Lib.hid (from_ HB.out hc)
  clear hc
  clear HH2
  obtain ⟨y12_0, y12_1, y12_2, y12_3, y12_4, y12_5, _, _, _, _, _, _, _⟩ := id bxs.out.1
  obtain ⟨y13_0, y13_1, y13_2, y13_3, y13_4, y13_5, _, _, _, _, _, _, _⟩ := id bxs.out.2.1
  go_wp2_with fail
  refine (ADD.out _ HB.out).mono ?_
  rintro e w14 ⟨X1, x1, Y1, z1, rfl, v1, t1, hc⟩
  clear y12_0 y12_1 y12_2 y12_3 y12_4 y12_5 y13_0 y13_1 y13_2 y13_3 y13_4 y13_5
  go_upto_region 9 with fail
  have hax : Below w14.heap.size w14 (w14.alloc (.cells #[.bool rA.n0, .bool rA.s0, .slice X1 rA.l0.length x1, .bool rA.n1, .bool rA.s1, .slice Y1 rA.l1.length z1] 29)) := (Below.refl _ _).alloc (Nat.le_refl _) _
  have bA := Lib.hid (Box6.new w14 (.bool rA.n0) (.bool rA.s0) (.slice X1 rA.l0.length x1) (.bool rA.n1) (.bool rA.s1) (.slice Y1 rA.l1.length z1) 29)
  obtain ⟨gbA, hgbA⟩ : ∃ g, g = w14.heap.size := ⟨_, rfl⟩
  rw [← hgbA] at bA
  have hc8 := from_ hc hax
  have V1 := Lib.hid (v1.below hax)
  have T1 := Lib.hid (t1.below hax)
  replace bxs := Lib.hid (bxs.out.below hc8)
  replace HB := Lib.hid (from_ HB.out hc8)
  clear hc hax hc8 v1 t1
  generalize hWx : w14.alloc (.cells #[.bool rA.n0, .bool rA.s0, .slice X1 rA.l0.length x1, .bool rA.n1, .bool rA.s1, .slice Y1 rA.l1.length z1] 29) = W15 at *
  try simp only [← hgbA]
  clear hWx hgbA
  obtain ⟨y16_0, y16_1, _, _, _⟩ := id bxs.out.2.2.1
  obtain ⟨y17_0, y17_1, _, _, _⟩ := id bxs.out.2.2.2
  go_wp2_with fail
  refine (WADD.out _ HB.out).mono ?_
  rintro e w18 ⟨D2, d2, rfl, o2, hc⟩
  clear y16_0 y16_1 y17_0 y17_1
  go_upto_region 10 with fail
  have hax : Below w18.heap.size w18 (w18.alloc (.cells #[.bool sA, .slice D2 lA.length d2] 25)) := (Below.refl _ _).alloc (Nat.le_refl _) _
  have bB := Lib.hid (Box.new w18 (.bool sA) (.slice D2 lA.length d2) 25)
  obtain ⟨gbB, hgbB⟩ : ∃ g, g = w18.heap.size := ⟨_, rfl⟩
  rw [← hgbB] at bB
  have hc8 := from_ hc hax
  have O2 := Lib.hid (o2.below hax)
  replace bxs := Lib.hid (bxs.out.below hc8)
  replace bA := Lib.hid (bA.out.below hc8)
  replace V1 := Lib.hid (V1.out.below hc8)
  replace T1 := Lib.hid (T1.out.below hc8)
  replace HB := Lib.hid (from_ HB.out hc8)
  clear hc hax hc8 o2
  generalize hWx : w18.alloc (.cells #[.bool sA, .slice D2 lA.length d2] 25) = W19 at *
  try simp only [← hgbB]
  clear hWx hgbB
  obtain ⟨y20_0, y20_1, y20_2, y20_3, y20_4, y20_5, _, _, _, _, _, _, _⟩ := id bxs.out.1
  obtain ⟨y21_0, y21_1, y21_2, y21_3, y21_4, y21_5, _, _, _, _, _, _, _⟩ := id bxs.out.2.1
  go_wp2_with fail
  refine (MUL.out _ HB.out).mono ?_
  rintro e w22 ⟨X3, x3, Y3, z3, rfl, v3, t3, hc⟩
  clear y20_0 y20_1 y20_2 y20_3 y20_4 y20_5 y21_0 y21_1 y21_2 y21_3 y21_4 y21_5
  go_upto_region 11 with fail
  have hax : Below w22.heap.size w22 (w22.alloc (.cells #[.bool rM.n0, .bool rM.s0, .slice X3 rM.l0.length x3, .bool rM.n1, .bool rM.s1, .slice Y3 rM.l1.length z3] 29)) := (Below.refl _ _).alloc (Nat.le_refl _) _
  have bC := Lib.hid (Box6.new w22 (.bool rM.n0) (.bool rM.s0) (.slice X3 rM.l0.length x3) (.bool rM.n1) (.bool rM.s1) (.slice Y3 rM.l1.length z3) 29)
  obtain ⟨gbC, hgbC⟩ : ∃ g, g = w22.heap.size := ⟨_, rfl⟩
  rw [← hgbC] at bC
  have hc8 := from_ hc hax
  have V3 := Lib.hid (v3.below hax)
  have T3 := Lib.hid (t3.below hax)
  replace bxs := Lib.hid (bxs.out.below hc8)
  replace bA := Lib.hid (bA.out.below hc8)
  replace bB := Lib.hid (bB.out.below hc8)
  replace V1 := Lib.hid (V1.out.below hc8)
  replace T1 := Lib.hid (T1.out.below hc8)
  replace O2 := Lib.hid (O2.out.below hc8)
  replace HB := Lib.hid (from_ HB.out hc8)
  clear hc hax hc8 v3 t3
  generalize hWx : w22.alloc (.cells #[.bool rM.n0, .bool rM.s0, .slice X3 rM.l0.length x3, .bool rM.n1, .bool rM.s1, .slice Y3 rM.l1.length z3] 29) = W23 at *
  try simp only [← hgbC]
  clear hWx hgbC
  obtain ⟨y24_0, y24_1, _, _, _⟩ := id bxs.out.2.2.1
  obtain ⟨y25_0, y25_1, _, _, _⟩ := id bxs.out.2.2.2
  go_wp2_with fail
  refine (WMUL.out _ HB.out).mono ?_
  rintro e w26 ⟨D4, d4, rfl, o4, hc⟩
  clear y24_0 y24_1 y25_0 y25_1
  go_upto_region 12 with fail
  have hax : Below w26.heap.size w26 (w26.alloc (.cells #[.bool sM, .slice D4 lM.length d4] 25)) := (Below.refl _ _).alloc (Nat.le_refl _) _
  have bD := Lib.hid (Box.new w26 (.bool sM) (.slice D4 lM.length d4) 25)
  obtain ⟨gbD, hgbD⟩ : ∃ g, g = w26.heap.size := ⟨_, rfl⟩
  rw [← hgbD] at bD
  have hc8 := from_ hc hax
  have O4 := Lib.hid (o4.below hax)
  replace bxs := Lib.hid (bxs.out.below hc8)
  replace bA := Lib.hid (bA.out.below hc8)
  replace bB := Lib.hid (bB.out.below hc8)
  replace bC := Lib.hid (bC.out.below hc8)
  replace V1 := Lib.hid (V1.out.below hc8)
  replace T1 := Lib.hid (T1.out.below hc8)
  replace O2 := Lib.hid (O2.out.below hc8)
  replace V3 := Lib.hid (V3.out.below hc8)
  replace T3 := Lib.hid (T3.out.below hc8)
  replace HB := Lib.hid (from_ HB.out hc8)
  clear hc hax hc8 o4
  generalize hWx : w26.alloc (.cells #[.bool sM, .slice D4 lM.length d4] 25) = W27 at *
  try simp only [← hgbD]
  clear hWx hgbD
  obtain ⟨y28_0, y28_1, y28_2, y28_3, y28_4, y28_5, _, _, _, _, _, _, _⟩ := id bxs.out.1
  go_wp2_with fail
  refine (NEG.out _ HB.out).mono ?_
  rintro e w29 ⟨X5, x5, Y5, z5, rfl, v5, t5, hc⟩
  clear y28_0 y28_1 y28_2 y28_3 y28_4 y28_5
  go_upto_region 13 with fail
  have hax : Below w29.heap.size w29 (w29.alloc (.cells #[.bool rN.n0, .bool rN.s0, .slice X5 rN.l0.length x5, .bool rN.n1, .bool rN.s1, .slice Y5 rN.l1.length z5] 29)) := (Below.refl _ _).alloc (Nat.le_refl _) _
  have bE := Lib.hid (Box6.new w29 (.bool rN.n0) (.bool rN.s0) (.slice X5 rN.l0.length x5) (.bool rN.n1) (.bool rN.s1) (.slice Y5 rN.l1.length z5) 29)
  obtain ⟨gbE, hgbE⟩ : ∃ g, g = w29.heap.size := ⟨_, rfl⟩
  rw [← hgbE] at bE
  have hc8 := from_ hc hax
  have V5 := Lib.hid (v5.below hax)
  have T5 := Lib.hid (t5.below hax)
  replace bxs := Lib.hid (bxs.out.below hc8)
  replace bA := Lib.hid (bA.out.below hc8)
  replace bB := Lib.hid (bB.out.below hc8)
  replace bC := Lib.hid (bC.out.below hc8)
  replace bD := Lib.hid (bD.out.below hc8)
  replace V1 := Lib.hid (V1.out.below hc8)
  replace T1 := Lib.hid (T1.out.below hc8)
  replace O2 := Lib.hid (O2.out.below hc8)
  replace V3 := Lib.hid (V3.out.below hc8)
  replace T3 := Lib.hid (T3.out.below hc8)
  replace O4 := Lib.hid (O4.out.below hc8)
  replace HB := Lib.hid (from_ HB.out hc8)
  clear hc hax hc8 v5 t5
  generalize hWx : w29.alloc (.cells #[.bool rN.n0, .bool rN.s0, .slice X5 rN.l0.length x5, .bool rN.n1, .bool rN.s1, .slice Y5 rN.l1.length z5] 29) = W30 at *
  try simp only [← hgbE]
  clear hWx hgbE
  obtain ⟨y31_0, y31_1, _, _, _⟩ := id bxs.out.2.2.1
  go_wp2_with fail
  refine (WNEG.out _ HB.out).mono ?_
  rintro e w32 ⟨D6, d6, rfl, o6, hc⟩
  clear y31_0 y31_1
  go_upto_region 14 with fail
  have hax : Below w32.heap.size w32 (w32.alloc (.cells #[.bool sN, .slice D6 lN.length d6] 25)) := (Below.refl _ _).alloc (Nat.le_refl _) _
  have bF := Lib.hid (Box.new w32 (.bool sN) (.slice D6 lN.length d6) 25)
  obtain ⟨gbF, hgbF⟩ : ∃ g, g = w32.heap.size := ⟨_, rfl⟩
  rw [← hgbF] at bF
  have hc8 := from_ hc hax
  have O6 := Lib.hid (o6.below hax)
  replace bxs := Lib.hid (bxs.out.below hc8)
  replace bA := Lib.hid (bA.out.below hc8)
  replace bB := Lib.hid (bB.out.below hc8)
  replace bC := Lib.hid (bC.out.below hc8)
  replace bD := Lib.hid (bD.out.below hc8)
  replace bE := Lib.hid (bE.out.below hc8)
  replace V1 := Lib.hid (V1.out.below hc8)
  replace T1 := Lib.hid (T1.out.below hc8)
  replace O2 := Lib.hid (O2.out.below hc8)
  replace V3 := Lib.hid (V3.out.below hc8)
  replace T3 := Lib.hid (T3.out.below hc8)
  replace O4 := Lib.hid (O4.out.below hc8)
  replace V5 := Lib.hid (V5.out.below hc8)
  replace T5 := Lib.hid (T5.out.below hc8)
  replace HB := Lib.hid (from_ HB.out hc8)
  clear hc hax hc8 o6
  generalize hWx : w32.alloc (.cells #[.bool sN, .slice D6 lN.length d6] 25) = W33 at *
  try simp only [← hgbF]
  clear hWx hgbF
  clear ADD WADD MUL WMUL NEG WNEG
  obtain ⟨y34_0, y34_1, y34_2, y34_3, y34_4, y34_5, _, _, _, _, _, _, _⟩ := id bA.out
  obtain ⟨y35_0, y35_1, _, _, _⟩ := id bB.out
  go_wp2_with fail
  refine (HSA.out _ _ _ _ _ _ _ _ _ _ V1.out T1.out O2.out).mono ?_
  rintro e w36 ⟨rfl, hc⟩
  clear y34_0 y34_1 y34_2 y34_3 y34_4 y34_5 y35_0 y35_1
  clear bA bB V1 T1 O2
  replace bxs := Lib.hid (bxs.out.below hc)
  replace bC := Lib.hid (bC.out.below hc)
  replace bD := Lib.hid (bD.out.below hc)
  replace bE := Lib.hid (bE.out.below hc)
  replace bF := Lib.hid (bF.out.below hc)
  replace V3 := Lib.hid (V3.out.below hc)
  replace T3 := Lib.hid (T3.out.below hc)
  replace O4 := Lib.hid (O4.out.below hc)
  replace V5 := Lib.hid (V5.out.below hc)
  replace T5 := Lib.hid (T5.out.below hc)
  replace O6 := Lib.hid (O6.out.below hc)
  replace HB := Lib.hid (from_ HB.out hc)
  clear hc
  clear HSA
  obtain ⟨y37_0, y37_1, y37_2, y37_3, y37_4, y37_5, _, _, _, _, _, _, _⟩ := id bC.out
  obtain ⟨y38_0, y38_1, _, _, _⟩ := id bD.out
  go_wp2_with fail
  refine (HSM.out _ _ _ _ _ _ _ _ _ _ V3.out T3.out O4.out).mono ?_
  rintro e w39 ⟨rfl, hc⟩
  clear y37_0 y37_1 y37_2 y37_3 y37_4 y37_5 y38_0 y38_1
  clear bC bD V3 T3 O4
  replace bxs := Lib.hid (bxs.out.below hc)
  replace bE := Lib.hid (bE.out.below hc)
  replace bF := Lib.hid (bF.out.below hc)
  replace V5 := Lib.hid (V5.out.below hc)
  replace T5 := Lib.hid (T5.out.below hc)
  replace O6 := Lib.hid (O6.out.below hc)
  replace HB := Lib.hid (from_ HB.out hc)
  clear hc
  clear HSM
  obtain ⟨y40_0, y40_1, y40_2, y40_3, y40_4, y40_5, _, _, _, _, _, _, _⟩ := id bE.out
  obtain ⟨y41_0, y41_1, _, _, _⟩ := id bF.out
  go_wp2_with fail
  refine (HSN.out _ _ _ _ _ _ _ _ _ _ V5.out T5.out O6.out).mono ?_
  rintro e w42 ⟨rfl, hc⟩
  clear y40_0 y40_1 y40_2 y40_3 y40_4 y40_5 y41_0 y41_1
  clear bE bF V5 T5 O6
  replace bxs := Lib.hid (bxs.out.below hc)
  replace HB := Lib.hid (from_ HB.out hc)
  clear hc
  clear HSN
  obtain ⟨y43_0, y43_1, _, _, _⟩ := id bxs.out.2.2.2
  go_wp2_with fail
  refine (SM.out _ HB.out).mono ?_
  rintro e w44 ⟨rfl, hc⟩
  clear y43_0 y43_1
  replace bxs := Lib.hid (bxs.out.below hc)
  replace HB := Lib.hid (from_ HB.out hc)
  clear hc
  clear SM
  have dk := DK.out
  have dk0 := DK0.out
  go_wp2_with fail
  refine (OF.out _).mono ?_
  rintro e w45 ⟨D1, d1, rfl, o1, hc⟩
  obtain ⟨YO1, o1, hZO1⟩ := o1.away
  go_upto_region 19 with fail
  have hax : Below w45.heap.size w45 (w45.alloc (.cells #[.bool sO, .slice D1 lO.length d1] 25)) := (Below.refl _ _).alloc (Nat.le_refl _) _
  have bP := Lib.hid (Box.new w45 (.bool sO) (.slice D1 lO.length d1) 25)
  obtain ⟨gbP, hgbP⟩ : ∃ g, g = w45.heap.size := ⟨_, rfl⟩
  rw [← hgbP] at bP
  have hc8 := from_ hc hax
  have hcz := hc.size
  have HbP := Lib.hid (show w.heap.size + 4 ≤ gbP by have h1 := bxs.out.2.2.2.lt; omega)
  clear hcz
  have ZO1_bP := Lib.hid (hZO1 gbP (by omega))
  clear hZO1
  have O1 := Lib.hid (o1.below hax)
  replace bxs := Lib.hid (bxs.out.below hc8)
  replace HB := Lib.hid (from_ HB.out hc8)
  clear hc hax hc8 o1
  generalize hWx : w45.alloc (.cells #[.bool sO, .slice D1 lO.length d1] 25) = W46 at *
  try simp only [← hgbP]
  clear hWx hgbP
  clear OF dk dk0 DK DK0
  have UB := Lib.hid (O1.out.mono (Y := zNe gbP) ⟨fun b hb e => ZO1_bP.out (e ▸ hb), fun h => h.elim⟩)
  clear O1 ZO1_bP
  go_wp2
  go_loopw [29] (fun i wr => ∃ (j : Nat) (s : Bool) (l : List Nat) (C : Option Addr) (c : Nat), j ≤ k ∧ i = .int .i64 (j : Int) ∧ Hid (Nm ((2 ^ j : Nat) : Int) s l) ∧ Hid (Box wr gbP (.bool s) (.slice C l.length c)) ∧ Hid (U64s wr (zNe gbP) C c l) ∧ Hid (Q4 wr w.heap.size (.bool p.n0) (.bool p.s0) (.slice A0 p.l0.length a0) (.bool p.n1) (.bool p.s1) (.slice B0 p.l1.length b0) (.bool q.n0) (.bool q.s0) (.slice A1 q.l0.length a1) (.bool q.n1) (.bool q.s1) (.slice B1 q.l1.length b1) (.bool sn) (.slice C0 ln.length c0) (.bool sm) (.slice C1 lm.length c1)) ∧ Hid (Below w.heap.size w wr)) (fun i _ => k - (intOf i).toNat)
  case atStart => exact ⟨0, sO, lO, _, _, Nat.zero_le _, rfl, HN0, bP, UB, bxs, HB⟩
  case round =>
    clear bP UB bxs HB HN0
    obtain ⟨j, s, l, C, c, hj, rfl, HN, bP, UP1, bxs, HB⟩ := hrel
    by_cases hlt : j < k
    · have dj : decide ((j : Int) < (k : Int)) = true := decide_eq_true (by omega)
      have JL := Lib.hid hlt
      have JJ := Lib.hid hj
      have GL := Lib.hid bP.out.lt
      clear hlt hj
      obtain ⟨y48_0, y48_1, _, _, _⟩ := id bP.out
      go_wp2_with fail
      refine (DB.out _ _ _ _ _ _ _ JL.out HN.out UP1.out).mono ?_
      rintro e w49 ⟨Dn, dn, rfl, on, hc⟩
      clear y48_0 y48_1
      clear UP1
      have hltg := bP.out.lt
      have hcz := hc.size
      replace bxs := Lib.hid (bxs.out.below hc)
      replace bP := Lib.hid (bP.out.below hc)
      replace HB := Lib.hid (from_ HB.out hc)
      have hP := bP.out.put (w := w) HB.out (show w.heap.size ≤ gbP by have h1 := HbP.out; omega) (.bool (decide (((2 ^ (j + 1) : Nat) : Int) < 0))) (.slice Dn (limbs (((2 ^ (j + 1) : Nat) : Int)).natAbs).length dn)
      have Sbxs := Lib.hid (bxs.out.st2 HbP.out (.bool (decide (((2 ^ (j + 1) : Nat) : Int) < 0))) (.slice Dn (limbs (((2 ^ (j + 1) : Nat) : Int)).natAbs).length dn))
      have SOn := Lib.hid (on.st2 (g := gbP) (fun (h : _ ≤ gbP) => by omega) (.bool (decide (((2 ^ (j + 1) : Nat) : Int) < 0))) (.slice Dn (limbs (((2 ^ (j + 1) : Nat) : Int)).natAbs).length dn))
      obtain ⟨q0, q1, f0, f1, _⟩ := id bP.out
      have SbP := Lib.hid hP.box
      have SHB := Lib.hid hP.bel
      clear hP hltg hcz hc on
      replace bxs := Sbxs
      clear Sbxs
      replace bP := SbP
      clear SbP
      replace HB := SHB
      clear SHB
      have On := SOn
      clear SOn
      have hh1 := JL.out
      have hh2 := Hk.out
      go_wp2
      go_roundw
      case rel => exact ⟨j + 1, _, _, _, _, by have := JL.out; omega, by go_num, Lib.hid (Nm.mk' _), bP, Lib.hid (On.out.mono (Y := zNe gbP) ⟨fun b hb e => by subst e; exact Nat.not_le.2 GL.out hb, fun _ => trivial⟩), bxs, HB⟩
      case measure => simp [intOf]; have := JL.out; omega
    · obtain rfl : j = k := by omega
      have hnn := HN.out
      obtain ⟨rfl, rfl⟩ : s = sW ∧ l = lW := ⟨HN.out.1.trans HNW.out.1.symm, HN.out.2.trans HNW.out.2.symm⟩
      clear hnn hj hlt HN HNW Hk
      obtain ⟨y47_0, y47_1, _, _, _⟩ := id bP.out
      obtain ⟨y48_0, y48_1, _, _, _⟩ := id bxs.out.2.2.1
      go_wp2_with fail
      refine (UP.out _ HB.out _ _ _ UP1.out).mono ?_
      rintro e w49 ⟨Du, du, rfl, ou, hc⟩
      clear y47_0 y47_1 y48_0 y48_1
      go_upto_region 24 with fail
      have hax : Below w49.heap.size w49 (w49.alloc (.cells #[.bool sU, .slice Du lU.length du] 25)) := (Below.refl _ _).alloc (Nat.le_refl _) _
      have bU := Lib.hid (Box.new w49 (.bool sU) (.slice Du lU.length du) 25)
      obtain ⟨gbU, hgbU⟩ : ∃ g, g = w49.heap.size := ⟨_, rfl⟩
      rw [← hgbU] at bU
      have hc8 := from_ hc hax
      have NbP_bU := Lib.hid (show gbP ≠ gbU by have h1 := bP.out.lt; have h2 := hc.size; omega)
      have Ou := Lib.hid (ou.below hax)
      replace bxs := Lib.hid (bxs.out.below hc8)
      replace bP := Lib.hid (bP.out.below hc8)
      replace UP1 := Lib.hid (UP1.out.below hc8)
      replace HB := Lib.hid (from_ HB.out hc8)
      clear hc hax hc8 ou
      generalize hWx : w49.alloc (.cells #[.bool sU, .slice Du lU.length du] 25) = W50 at *
      try simp only [← hgbU]
      clear hWx hgbU
      obtain ⟨y51_0, y51_1, _, _, _⟩ := id bP.out
      obtain ⟨y52_0, y52_1, _, _, _⟩ := id bxs.out.2.2.1
      go_wp2_with fail
      refine (DN.out _ HB.out _ _ _ UP1.out).mono ?_
      rintro e w53 ⟨Dv, dv, rfl, ov, hc⟩
      clear y51_0 y51_1 y52_0 y52_1
      clear bP UP1
      go_upto_region 25 with fail
      have hax : Below w53.heap.size w53 (w53.alloc (.cells #[.bool sV, .slice Dv lV.length dv] 25)) := (Below.refl _ _).alloc (Nat.le_refl _) _
      have bV := Lib.hid (Box.new w53 (.bool sV) (.slice Dv lV.length dv) 25)
      obtain ⟨gbV, hgbV⟩ : ∃ g, g = w53.heap.size := ⟨_, rfl⟩
      rw [← hgbV] at bV
      have hc8 := from_ hc hax
      have Ov := Lib.hid (ov.below hax)
      replace bxs := Lib.hid (bxs.out.below hc8)
      replace bU := Lib.hid (bU.out.below hc8)
      replace Ou := Lib.hid (Ou.out.below hc8)
      replace HB := Lib.hid (from_ HB.out hc8)
      clear hc hax hc8 ov
      generalize hWx : w53.alloc (.cells #[.bool sV, .slice Dv lV.length dv] 25) = W54 at *
      try simp only [← hgbV]
      clear hWx hgbV
      clear UP DN DB
      obtain ⟨y55_0, y55_1, y55_2, y55_3, y55_4, y55_5, _, _, _, _, _, _, _⟩ := id bxs.out.1
      obtain ⟨y56_0, y56_1, y56_2, y56_3, y56_4, y56_5, _, _, _, _, _, _, _⟩ := id bxs.out.2.1
      go_wp2_with fail
      refine (SHL.out _ HB.out).mono ?_
      rintro e w57 ⟨Xl, xl, Yl, zl, rfl, vl, tl, hc⟩
      clear y55_0 y55_1 y55_2 y55_3 y55_4 y55_5 y56_0 y56_1 y56_2 y56_3 y56_4 y56_5
      go_upto_region 26 with fail
      have hax : Below w57.heap.size w57 (w57.alloc (.cells #[.bool rL.n0, .bool rL.s0, .slice Xl rL.l0.length xl, .bool rL.n1, .bool rL.s1, .slice Yl rL.l1.length zl] 29)) := (Below.refl _ _).alloc (Nat.le_refl _) _
      have bL := Lib.hid (Box6.new w57 (.bool rL.n0) (.bool rL.s0) (.slice Xl rL.l0.length xl) (.bool rL.n1) (.bool rL.s1) (.slice Yl rL.l1.length zl) 29)
      obtain ⟨gbL, hgbL⟩ : ∃ g, g = w57.heap.size := ⟨_, rfl⟩
      rw [← hgbL] at bL
      have hc8 := from_ hc hax
      have Vl := Lib.hid (vl.below hax)
      have Tl := Lib.hid (tl.below hax)
      replace bxs := Lib.hid (bxs.out.below hc8)
      replace bU := Lib.hid (bU.out.below hc8)
      replace bV := Lib.hid (bV.out.below hc8)
      replace Ou := Lib.hid (Ou.out.below hc8)
      replace Ov := Lib.hid (Ov.out.below hc8)
      replace HB := Lib.hid (from_ HB.out hc8)
      clear hc hax hc8 vl tl
      generalize hWx : w57.alloc (.cells #[.bool rL.n0, .bool rL.s0, .slice Xl rL.l0.length xl, .bool rL.n1, .bool rL.s1, .slice Yl rL.l1.length zl] 29) = W58 at *
      try simp only [← hgbL]
      clear hWx hgbL
      obtain ⟨y59_0, y59_1, y59_2, y59_3, y59_4, y59_5, _, _, _, _, _, _, _⟩ := id bxs.out.1
      obtain ⟨y60_0, y60_1, y60_2, y60_3, y60_4, y60_5, _, _, _, _, _, _, _⟩ := id bxs.out.2.1
      go_wp2_with fail
      refine (SHR.out _ HB.out).mono ?_
      rintro e w61 ⟨Xr, xr, Yr, zr, rfl, vr, tr, hc⟩
      clear y59_0 y59_1 y59_2 y59_3 y59_4 y59_5 y60_0 y60_1 y60_2 y60_3 y60_4 y60_5
      go_upto_region 27 with fail
      have hax : Below w61.heap.size w61 (w61.alloc (.cells #[.bool rR.n0, .bool rR.s0, .slice Xr rR.l0.length xr, .bool rR.n1, .bool rR.s1, .slice Yr rR.l1.length zr] 29)) := (Below.refl _ _).alloc (Nat.le_refl _) _
      have bR := Lib.hid (Box6.new w61 (.bool rR.n0) (.bool rR.s0) (.slice Xr rR.l0.length xr) (.bool rR.n1) (.bool rR.s1) (.slice Yr rR.l1.length zr) 29)
      obtain ⟨gbR, hgbR⟩ : ∃ g, g = w61.heap.size := ⟨_, rfl⟩
      rw [← hgbR] at bR
      have hc8 := from_ hc hax
      have Vr := Lib.hid (vr.below hax)
      have Tr := Lib.hid (tr.below hax)
      replace bxs := Lib.hid (bxs.out.below hc8)
      replace bU := Lib.hid (bU.out.below hc8)
      replace bV := Lib.hid (bV.out.below hc8)
      replace bL := Lib.hid (bL.out.below hc8)
      replace Ou := Lib.hid (Ou.out.below hc8)
      replace Ov := Lib.hid (Ov.out.below hc8)
      replace Vl := Lib.hid (Vl.out.below hc8)
      replace Tl := Lib.hid (Tl.out.below hc8)
      replace HB := Lib.hid (from_ HB.out hc8)
      clear hc hax hc8 vr tr
      generalize hWx : w61.alloc (.cells #[.bool rR.n0, .bool rR.s0, .slice Xr rR.l0.length xr, .bool rR.n1, .bool rR.s1, .slice Yr rR.l1.length zr] 29) = W62 at *
      try simp only [← hgbR]
      clear hWx hgbR
      clear SHL SHR
      obtain ⟨y63_0, y63_1, y63_2, y63_3, y63_4, y63_5, _, _, _, _, _, _, _⟩ := id bL.out
      obtain ⟨y64_0, y64_1, _, _, _⟩ := id bU.out
      go_wp2_with fail
      refine (HSU.out _ _ _ _ _ _ _ _ _ _ Vl.out Tl.out Ou.out).mono ?_
      rintro e w65 ⟨rfl, hc⟩
      clear y63_0 y63_1 y63_2 y63_3 y63_4 y63_5 y64_0 y64_1
      clear bL bU Vl Tl Ou
      replace bxs := Lib.hid (bxs.out.below hc)
      replace bV := Lib.hid (bV.out.below hc)
      replace bR := Lib.hid (bR.out.below hc)
      replace Ov := Lib.hid (Ov.out.below hc)
      replace Vr := Lib.hid (Vr.out.below hc)
      replace Tr := Lib.hid (Tr.out.below hc)
      replace HB := Lib.hid (from_ HB.out hc)
      clear hc
      clear HSU
      obtain ⟨y66_0, y66_1, y66_2, y66_3, y66_4, y66_5, _, _, _, _, _, _, _⟩ := id bR.out
      obtain ⟨y67_0, y67_1, _, _, _⟩ := id bV.out
      go_wp2_with fail
      refine (HSV.out _ _ _ _ _ _ _ _ _ _ Vr.out Tr.out Ov.out).mono ?_
      rintro e w68 ⟨rfl, hc⟩
      clear y66_0 y66_1 y66_2 y66_3 y66_4 y66_5 y67_0 y67_1
      clear bR bV Vr Tr Ov
      replace bxs := Lib.hid (bxs.out.below hc)
      replace HB := Lib.hid (from_ HB.out hc)
      clear hc
      clear HSV
      rcases HZ.out with dz | ⟨dz, hy0, hsg⟩ | ⟨dz, hy0, hsg⟩
      all_goals clear HZ
      · clear KH KU
        obtain ⟨y69_0, y69_1, _, _, _⟩ := id bxs.out.2.2.2
        go_wp2
        go_ret
        exact ⟨by first | rfl | trivial, HB.out⟩
      · subst hsg
        obtain ⟨hP, gP, hQ, gQ, nx, ny, ix, iy, k3, k4⟩ := KH.out
        obtain ⟨u0, u1, u2, u3, u4, u5⟩ := KU.out
        have bx := nm_bound nx k3
        have by_ := nm_bound ny k4
        clear KH KU
        obtain ⟨sQ, lQ, nQ⟩ : ∃ s l, Nm (Int.tdiv x y) s l := ⟨_, _, rfl, rfl⟩
        have bQ := wtdiv_bd (b := y) bx
        have qQ := nm_lenN nQ (N := 4) bQ
        obtain ⟨sT, lT, nT⟩ : ∃ s l, Nm (Int.tdiv x y * y) s l := ⟨_, _, rfl, rfl⟩
        have qT := nm_lenN nT (N := 8) (wmul_bd bQ by_)
        obtain ⟨sR, lR, nR⟩ : ∃ s l, Nm (x - Int.tdiv x y * y) s l := ⟨_, _, rfl, rfl⟩
        have qR := nm_lenN nR (N := 4) (wtmod_bd bx)
        have pne := parts_ne hy0 iy
        have h60 := wN_le (show 60 ≤ 64 by omega)
        have bx60 := bound_up (M := 60) bx (by omega)
        have by60 := bound_up (M := 60) by_ (by omega)
        obtain ⟨rD, hD⟩ : ∃ r, IvW (ivD P Q) r := ⟨_, IvW.mk _⟩
        have gD := ivD_ok gP gQ (by omega) (by omega) pne
        obtain ⟨rO, hO⟩ : ∃ r, IvW (modP P Q) r := ⟨_, IvW.mk _⟩
        have gO := ivn_mod gP gQ (fun h => pne ((parts_nil gQ.le).2 h)) (by omega)
        have DIV := Lib.hid (fun (W : World) (h : Below w.heap.size w W) => idiv_w hP (gP.up (by omega)) hQ (gQ.up (by omega)) (u0.below h) (u1.below h) (u2.below h) (u3.below h) pne hD)
        have MOD := Lib.hid (fun (W : World) (h : Below w.heap.size w W) => imod_w hP (gP.up (by omega)) hQ (gQ.up (by omega)) (u0.below h) (u1.below h) (u2.below h) (u3.below h) pne hO)
        have HSD := Lib.hid (fun (W : World) (Z1 Z2 Z3 : Zone) (A B C : Option Addr) (a b c : Nat) (v0 : U64s W Z1 A a rD.l0) (v1 : U64s W Z2 B b rD.l1) (v2 : U64s W Z3 C c lQ) => l16has_w hD gD (by omega) nQ (by omega) v0 v1 v2 (div_in (gP.up (by omega)) (gQ.up (by omega)) hy0 bx60 by60 ix iy))
        have HSO := Lib.hid (fun (W : World) (Z1 Z2 Z3 : Zone) (A B C : Option Addr) (a b c : Nat) (v0 : U64s W Z1 A a rO.l0) (v1 : U64s W Z2 B b rO.l1) (v2 : U64s W Z3 C c lR) => l16has_w hO gO (by omega) nR (by omega) v0 v1 v2 (mod_in gP gQ (by omega) hy0 ix.1 ix.2 iy.1 iy.2 (by omega) (by omega)))
        have TM := Lib.hid (fun (W : World) (h : Below w.heap.size w W) (Z : Zone) (C : Option Addr) (c : Nat) (v : U64s W Z C c lQ) => wmul_n nQ ny nT rfl (by omega) (by omega) v (u5.below h))
        have SU := Lib.hid (fun (W : World) (h : Below w.heap.size w W) (Z : Zone) (C : Option Addr) (c : Nat) (v : U64s W Z C c lT) => wsub_n nx nT nR rfl (by omega) (by omega) (u4.below h) v)
        have nq1 : Nm (rq x y true) sQ lQ := by rw [quo_same nx ny rfl]; exact nQ
        have FL := Lib.hid (fun (W : World) (h : Below w.heap.size w W) => wfloor_m nx ny hy0 nq1 (by omega) (u4.below h) (u5.below h))
        clear nQ bQ qQ nT qT nR qR pne h60 bx60 by60 hD gD hO gO hy0 nq1 hP gP hQ gQ nx ny ix iy u0 u1 u2 u3 u4 u5 k3 k4 bx by_
        obtain ⟨y69_0, y69_1, _, _, _⟩ := id bxs.out.2.2.1
        obtain ⟨y70_0, y70_1, _, _, _⟩ := id bxs.out.2.2.2
        go_wp2_with fail
        refine (FL.out _ HB.out).mono ?_
        rintro e w71 ⟨Dq, dq, rfl, oq, hc⟩
        clear y69_0 y69_1 y70_0 y70_1
        go_upto_region 32 with fail
        have hax : Below w71.heap.size w71 (w71.alloc (.cells #[.bool sQ, .slice Dq lQ.length dq] 25)) := (Below.refl _ _).alloc (Nat.le_refl _) _
        have bQ := Lib.hid (Box.new w71 (.bool sQ) (.slice Dq lQ.length dq) 25)
        obtain ⟨gbQ, hgbQ⟩ : ∃ g, g = w71.heap.size := ⟨_, rfl⟩
        rw [← hgbQ] at bQ
        have hc8 := from_ hc hax
        have Oq := Lib.hid (oq.below hax)
        replace bxs := Lib.hid (bxs.out.below hc8)
        replace HB := Lib.hid (from_ HB.out hc8)
        clear hc hax hc8 oq
        generalize hWx : w71.alloc (.cells #[.bool sQ, .slice Dq lQ.length dq] 25) = W72 at *
        try simp only [← hgbQ]
        clear hWx hgbQ
        clear FL
        obtain ⟨y73_0, y73_1, _, _, _⟩ := id bQ.out
        obtain ⟨y74_0, y74_1, _, _, _⟩ := id bxs.out.2.2.2
        obtain ⟨y75_0, y75_1, _, _, _⟩ := id bxs.out.2.2.1
        go_wp2_with fail
        refine (TM.out _ HB.out _ _ _ Oq.out).mono ?_
        rintro e w76 ⟨Dt, dt, rfl, ot, hc⟩
        clear y73_0 y73_1 y74_0 y74_1 y75_0 y75_1
        go_upto_region 35 with fail
        have hax : Below w76.heap.size w76 (w76.alloc (.cells #[.bool sT, .slice Dt lT.length dt] 25)) := (Below.refl _ _).alloc (Nat.le_refl _) _
        have bT := Lib.hid (Box.new w76 (.bool sT) (.slice Dt lT.length dt) 25)
        obtain ⟨gbT, hgbT⟩ : ∃ g, g = w76.heap.size := ⟨_, rfl⟩
        rw [← hgbT] at bT
        have hc8 := from_ hc hax
        have Ot := Lib.hid (ot.below hax)
        replace bxs := Lib.hid (bxs.out.below hc8)
        replace bQ := Lib.hid (bQ.out.below hc8)
        replace Oq := Lib.hid (Oq.out.below hc8)
        replace HB := Lib.hid (from_ HB.out hc8)
        clear hc hax hc8 ot
        generalize hWx : w76.alloc (.cells #[.bool sT, .slice Dt lT.length dt] 25) = W77 at *
        try simp only [← hgbT]
        clear hWx hgbT
        obtain ⟨y78_0, y78_1, _, _, _⟩ := id bxs.out.2.2.1
        obtain ⟨y79_0, y79_1, _, _, _⟩ := id bT.out
        go_wp2_with fail
        refine (SU.out _ HB.out _ _ _ Ot.out).mono ?_
        rintro e w80 ⟨Dr, dr, rfl, or, hc⟩
        clear y78_0 y78_1 y79_0 y79_1
        clear bT Ot
        go_upto_region 36 with fail
        have hax : Below w80.heap.size w80 (w80.alloc (.cells #[.bool sR, .slice Dr lR.length dr] 25)) := (Below.refl _ _).alloc (Nat.le_refl _) _
        have bR := Lib.hid (Box.new w80 (.bool sR) (.slice Dr lR.length dr) 25)
        obtain ⟨gbR, hgbR⟩ : ∃ g, g = w80.heap.size := ⟨_, rfl⟩
        rw [← hgbR] at bR
        have hc8 := from_ hc hax
        have Or := Lib.hid (or.below hax)
        replace bxs := Lib.hid (bxs.out.below hc8)
        replace bQ := Lib.hid (bQ.out.below hc8)
        replace Oq := Lib.hid (Oq.out.below hc8)
        replace HB := Lib.hid (from_ HB.out hc8)
        clear hc hax hc8 or
        generalize hWx : w80.alloc (.cells #[.bool sR, .slice Dr lR.length dr] 25) = W81 at *
        try simp only [← hgbR]
        clear hWx hgbR
        clear TM SU
        obtain ⟨y82_0, y82_1, y82_2, y82_3, y82_4, y82_5, _, _, _, _, _, _, _⟩ := id bxs.out.1
        obtain ⟨y83_0, y83_1, y83_2, y83_3, y83_4, y83_5, _, _, _, _, _, _, _⟩ := id bxs.out.2.1
        go_wp2_with fail
        refine (DIV.out _ HB.out).mono ?_
        rintro e w84 ⟨Xu, xu, Yu, zu, rfl, vu, tu, hc⟩
        clear y82_0 y82_1 y82_2 y82_3 y82_4 y82_5 y83_0 y83_1 y83_2 y83_3 y83_4 y83_5
        go_upto_region 37 with fail
        have hax : Below w84.heap.size w84 (w84.alloc (.cells #[.bool rD.n0, .bool rD.s0, .slice Xu rD.l0.length xu, .bool rD.n1, .bool rD.s1, .slice Yu rD.l1.length zu] 29)) := (Below.refl _ _).alloc (Nat.le_refl _) _
        have bU := Lib.hid (Box6.new w84 (.bool rD.n0) (.bool rD.s0) (.slice Xu rD.l0.length xu) (.bool rD.n1) (.bool rD.s1) (.slice Yu rD.l1.length zu) 29)
        obtain ⟨gbU, hgbU⟩ : ∃ g, g = w84.heap.size := ⟨_, rfl⟩
        rw [← hgbU] at bU
        have hc8 := from_ hc hax
        have Vu := Lib.hid (vu.below hax)
        have Tu := Lib.hid (tu.below hax)
        replace bxs := Lib.hid (bxs.out.below hc8)
        replace bQ := Lib.hid (bQ.out.below hc8)
        replace bR := Lib.hid (bR.out.below hc8)
        replace Oq := Lib.hid (Oq.out.below hc8)
        replace Or := Lib.hid (Or.out.below hc8)
        replace HB := Lib.hid (from_ HB.out hc8)
        clear hc hax hc8 vu tu
        generalize hWx : w84.alloc (.cells #[.bool rD.n0, .bool rD.s0, .slice Xu rD.l0.length xu, .bool rD.n1, .bool rD.s1, .slice Yu rD.l1.length zu] 29) = W85 at *
        try simp only [← hgbU]
        clear hWx hgbU
        obtain ⟨y86_0, y86_1, y86_2, y86_3, y86_4, y86_5, _, _, _, _, _, _, _⟩ := id bxs.out.1
        obtain ⟨y87_0, y87_1, y87_2, y87_3, y87_4, y87_5, _, _, _, _, _, _, _⟩ := id bxs.out.2.1
        go_wp2_with fail
        refine (MOD.out _ HB.out).mono ?_
        rintro e w88 ⟨Xw, xw, Yw, zw, rfl, vw, tw, hc⟩
        clear y86_0 y86_1 y86_2 y86_3 y86_4 y86_5 y87_0 y87_1 y87_2 y87_3 y87_4 y87_5
        go_upto_region 38 with fail
        have hax : Below w88.heap.size w88 (w88.alloc (.cells #[.bool rO.n0, .bool rO.s0, .slice Xw rO.l0.length xw, .bool rO.n1, .bool rO.s1, .slice Yw rO.l1.length zw] 29)) := (Below.refl _ _).alloc (Nat.le_refl _) _
        have bW := Lib.hid (Box6.new w88 (.bool rO.n0) (.bool rO.s0) (.slice Xw rO.l0.length xw) (.bool rO.n1) (.bool rO.s1) (.slice Yw rO.l1.length zw) 29)
        obtain ⟨gbW, hgbW⟩ : ∃ g, g = w88.heap.size := ⟨_, rfl⟩
        rw [← hgbW] at bW
        have hc8 := from_ hc hax
        have Vw := Lib.hid (vw.below hax)
        have Tw := Lib.hid (tw.below hax)
        replace bxs := Lib.hid (bxs.out.below hc8)
        replace bQ := Lib.hid (bQ.out.below hc8)
        replace bR := Lib.hid (bR.out.below hc8)
        replace bU := Lib.hid (bU.out.below hc8)
        replace Oq := Lib.hid (Oq.out.below hc8)
        replace Or := Lib.hid (Or.out.below hc8)
        replace Vu := Lib.hid (Vu.out.below hc8)
        replace Tu := Lib.hid (Tu.out.below hc8)
        replace HB := Lib.hid (from_ HB.out hc8)
        clear hc hax hc8 vw tw
        generalize hWx : w88.alloc (.cells #[.bool rO.n0, .bool rO.s0, .slice Xw rO.l0.length xw, .bool rO.n1, .bool rO.s1, .slice Yw rO.l1.length zw] 29) = W89 at *
        try simp only [← hgbW]
        clear hWx hgbW
        clear DIV MOD
        obtain ⟨y90_0, y90_1, y90_2, y90_3, y90_4, y90_5, _, _, _, _, _, _, _⟩ := id bU.out
        obtain ⟨y91_0, y91_1, _, _, _⟩ := id bQ.out
        go_wp2_with fail
        refine (HSD.out _ _ _ _ _ _ _ _ _ _ Vu.out Tu.out Oq.out).mono ?_
        rintro e w92 ⟨rfl, hc⟩
        clear y90_0 y90_1 y90_2 y90_3 y90_4 y90_5 y91_0 y91_1
        clear bU bQ Vu Tu Oq
        replace bxs := Lib.hid (bxs.out.below hc)
        replace bR := Lib.hid (bR.out.below hc)
        replace bW := Lib.hid (bW.out.below hc)
        replace Or := Lib.hid (Or.out.below hc)
        replace Vw := Lib.hid (Vw.out.below hc)
        replace Tw := Lib.hid (Tw.out.below hc)
        replace HB := Lib.hid (from_ HB.out hc)
        clear hc
        clear HSD
        obtain ⟨y93_0, y93_1, y93_2, y93_3, y93_4, y93_5, _, _, _, _, _, _, _⟩ := id bW.out
        obtain ⟨y94_0, y94_1, _, _, _⟩ := id bR.out
        go_wp2_with fail
        refine (HSO.out _ _ _ _ _ _ _ _ _ _ Vw.out Tw.out Or.out).mono ?_
        rintro e w95 ⟨rfl, hc⟩
        clear y93_0 y93_1 y93_2 y93_3 y93_4 y93_5 y94_0 y94_1
        clear bW bR Vw Tw Or
        replace bxs := Lib.hid (bxs.out.below hc)
        replace HB := Lib.hid (from_ HB.out hc)
        clear hc
        clear HSO
        go_wp2
        go_ret
        exact ⟨by first | rfl | trivial, HB.out⟩
      · obtain rfl : sm = !sn := by revert hsg; cases sn <;> cases sm <;> simp
        obtain ⟨hP, gP, hQ, gQ, nx, ny, ix, iy, k3, k4⟩ := KH.out
        obtain ⟨u0, u1, u2, u3, u4, u5⟩ := KU.out
        have bx := nm_bound nx k3
        have by_ := nm_bound ny k4
        clear KH KU
        obtain ⟨sQ, lQ, nQ⟩ : ∃ s l, Nm (Int.tdiv x y) s l := ⟨_, _, rfl, rfl⟩
        have bQ := wtdiv_bd (b := y) bx
        have qQ := nm_lenN nQ (N := 4) bQ
        obtain ⟨sT, lT, nT⟩ : ∃ s l, Nm (Int.tdiv x y * y) s l := ⟨_, _, rfl, rfl⟩
        have qT := nm_lenN nT (N := 8) (wmul_bd bQ by_)
        obtain ⟨sR, lR, nR⟩ : ∃ s l, Nm (x - Int.tdiv x y * y) s l := ⟨_, _, rfl, rfl⟩
        have qR := nm_lenN nR (N := 4) (wtmod_bd bx)
        have pne := parts_ne hy0 iy
        have h60 := wN_le (show 60 ≤ 64 by omega)
        have bx60 := bound_up (M := 60) bx (by omega)
        have by60 := bound_up (M := 60) by_ (by omega)
        obtain ⟨rD, hD⟩ : ∃ r, IvW (ivD P Q) r := ⟨_, IvW.mk _⟩
        have gD := ivD_ok gP gQ (by omega) (by omega) pne
        obtain ⟨rO, hO⟩ : ∃ r, IvW (modP P Q) r := ⟨_, IvW.mk _⟩
        have gO := ivn_mod gP gQ (fun h => pne ((parts_nil gQ.le).2 h)) (by omega)
        have DIV := Lib.hid (fun (W : World) (h : Below w.heap.size w W) => idiv_w hP (gP.up (by omega)) hQ (gQ.up (by omega)) (u0.below h) (u1.below h) (u2.below h) (u3.below h) pne hD)
        have MOD := Lib.hid (fun (W : World) (h : Below w.heap.size w W) => imod_w hP (gP.up (by omega)) hQ (gQ.up (by omega)) (u0.below h) (u1.below h) (u2.below h) (u3.below h) pne hO)
        have HSD := Lib.hid (fun (W : World) (Z1 Z2 Z3 : Zone) (A B C : Option Addr) (a b c : Nat) (v0 : U64s W Z1 A a rD.l0) (v1 : U64s W Z2 B b rD.l1) (v2 : U64s W Z3 C c lQ) => l16has_w hD gD (by omega) nQ (by omega) v0 v1 v2 (div_in (gP.up (by omega)) (gQ.up (by omega)) hy0 bx60 by60 ix iy))
        have HSO := Lib.hid (fun (W : World) (Z1 Z2 Z3 : Zone) (A B C : Option Addr) (a b c : Nat) (v0 : U64s W Z1 A a rO.l0) (v1 : U64s W Z2 B b rO.l1) (v2 : U64s W Z3 C c lR) => l16has_w hO gO (by omega) nR (by omega) v0 v1 v2 (mod_in gP gQ (by omega) hy0 ix.1 ix.2 iy.1 iy.2 (by omega) (by omega)))
        have TM := Lib.hid (fun (W : World) (h : Below w.heap.size w W) (Z : Zone) (C : Option Addr) (c : Nat) (v : U64s W Z C c lQ) => wmul_n nQ ny nT rfl (by omega) (by omega) v (u5.below h))
        have SU := Lib.hid (fun (W : World) (h : Below w.heap.size w W) (Z : Zone) (C : Option Addr) (c : Nat) (v : U64s W Z C c lT) => wsub_n nx nT nR rfl (by omega) (by omega) (u4.below h) v)
        obtain ⟨sF, lF, nF⟩ : ∃ s l, Nm (rq x y true) s l := ⟨_, _, rfl, rfl⟩
        have nq1 : Nm (rq x y false) sQ lQ := by rw [quo_diff nx ny (by cases sn <;> simp)]; exact nQ
        have FL := Lib.hid (fun (W : World) (h : Below w.heap.size w W) => wfloor_m nx ny hy0 nF (by omega) (u4.below h) (u5.below h))
        have CE := Lib.hid (fun (W : World) (h : Below w.heap.size w W) => wceil_m nx ny hy0 nq1 (by omega) (u4.below h) (u5.below h))
        clear nQ bQ qQ nT qT nR qR pne h60 bx60 by60 hD gD hO gO hy0 nq1 hP gP hQ gQ nx ny ix iy u0 u1 u2 u3 u4 u5 k3 k4 bx by_ nF hsg
        obtain ⟨y69_0, y69_1, _, _, _⟩ := id bxs.out.2.2.1
        obtain ⟨y70_0, y70_1, _, _, _⟩ := id bxs.out.2.2.2
        go_wp2_with fail
        refine (FL.out _ HB.out).mono ?_
        rintro e w71 ⟨Df, df, rfl, of, hc⟩
        clear y69_0 y69_1 y70_0 y70_1
        go_upto_region 32 with fail
        have hax : Below w71.heap.size w71 (w71.alloc (.cells #[.bool sF, .slice Df lF.length df] 25)) := (Below.refl _ _).alloc (Nat.le_refl _) _
        have bQ := Lib.hid (Box.new w71 (.bool sF) (.slice Df lF.length df) 25)
        obtain ⟨gbQ, hgbQ⟩ : ∃ g, g = w71.heap.size := ⟨_, rfl⟩
        rw [← hgbQ] at bQ
        have hc8 := from_ hc hax
        have hcz := hc.size
        have HbQ := Lib.hid (show w.heap.size + 4 ≤ gbQ by have h1 := bxs.out.2.2.2.lt; omega)
        clear hcz
        have Of := Lib.hid (of.below hax)
        replace bxs := Lib.hid (bxs.out.below hc8)
        replace HB := Lib.hid (from_ HB.out hc8)
        clear hc hax hc8 of
        generalize hWx : w71.alloc (.cells #[.bool sF, .slice Df lF.length df] 25) = W72 at *
        try simp only [← hgbQ]
        clear hWx hgbQ
        clear FL
        obtain ⟨y74_0, y74_1, _, _, _⟩ := id bxs.out.2.2.1
        obtain ⟨y75_0, y75_1, _, _, _⟩ := id bxs.out.2.2.2
        go_wp2_with fail
        refine (CE.out _ HB.out).mono ?_
        rintro e w76 ⟨Dq, dq, rfl, oq, hc⟩
        clear y74_0 y74_1 y75_0 y75_1
        clear Of
        have hltg := bQ.out.lt
        have hcz := hc.size
        replace bxs := Lib.hid (bxs.out.below hc)
        replace bQ := Lib.hid (bQ.out.below hc)
        replace HB := Lib.hid (from_ HB.out hc)
        have hP := bQ.out.put (w := w) HB.out (show w.heap.size ≤ gbQ by have h1 := HbQ.out; omega) (.bool sQ) (.slice Dq lQ.length dq)
        have Sbxs := Lib.hid (bxs.out.st2 HbQ.out (.bool sQ) (.slice Dq lQ.length dq))
        have SOq := Lib.hid (oq.st2 (g := gbQ) (fun (h : _ ≤ gbQ) => by omega) (.bool sQ) (.slice Dq lQ.length dq))
        obtain ⟨q0, q1, f0, f1, _⟩ := id bQ.out
        have SbQ := Lib.hid hP.box
        have SHB := Lib.hid hP.bel
        clear hP hltg hcz hc oq
        go_upto_region 34 with fail
        clear q0 q1 f0 f1
        replace bxs := Sbxs
        clear Sbxs
        replace bQ := SbQ
        clear SbQ
        replace HB := SHB
        clear SHB
        have Oq := SOq
        clear SOq
        generalize ((w76.setCell ⟨gbQ, 0, none⟩ (.bool sQ)).setCell ⟨gbQ, 1, none⟩ (.slice Dq lQ.length dq)) = W73 at *
        clear CE
        obtain ⟨y77_0, y77_1, _, _, _⟩ := id bQ.out
        obtain ⟨y78_0, y78_1, _, _, _⟩ := id bxs.out.2.2.2
        go_wp2_with fail
        refine (TM.out _ HB.out _ _ _ Oq.out).mono ?_
        rintro e w79 ⟨Dt, dt, rfl, ot, hc⟩
        clear y77_0 y77_1 y78_0 y78_1
        go_upto_region 35 with fail
        have hax : Below w79.heap.size w79 (w79.alloc (.cells #[.bool sT, .slice Dt lT.length dt] 25)) := (Below.refl _ _).alloc (Nat.le_refl _) _
        have bT := Lib.hid (Box.new w79 (.bool sT) (.slice Dt lT.length dt) 25)
        obtain ⟨gbT, hgbT⟩ : ∃ g, g = w79.heap.size := ⟨_, rfl⟩
        rw [← hgbT] at bT
        have hc8 := from_ hc hax
        have NbQ_bT := Lib.hid (show gbQ ≠ gbT by have h1 := bQ.out.lt; have h2 := hc.size; omega)
        have Ot := Lib.hid (ot.below hax)
        replace bxs := Lib.hid (bxs.out.below hc8)
        replace bQ := Lib.hid (bQ.out.below hc8)
        replace Oq := Lib.hid (Oq.out.below hc8)
        replace HB := Lib.hid (from_ HB.out hc8)
        clear hc hax hc8 ot
        generalize hWx : w79.alloc (.cells #[.bool sT, .slice Dt lT.length dt] 25) = W80 at *
        try simp only [← hgbT]
        clear hWx hgbT
        obtain ⟨y81_0, y81_1, _, _, _⟩ := id bxs.out.2.2.1
        obtain ⟨y82_0, y82_1, _, _, _⟩ := id bT.out
        go_wp2_with fail
        refine (SU.out _ HB.out _ _ _ Ot.out).mono ?_
        rintro e w83 ⟨Dr, dr, rfl, or, hc⟩
        clear y81_0 y81_1 y82_0 y82_1
        clear bT Ot
        go_upto_region 36 with fail
        have hax : Below w83.heap.size w83 (w83.alloc (.cells #[.bool sR, .slice Dr lR.length dr] 25)) := (Below.refl _ _).alloc (Nat.le_refl _) _
        have bR := Lib.hid (Box.new w83 (.bool sR) (.slice Dr lR.length dr) 25)
        obtain ⟨gbR, hgbR⟩ : ∃ g, g = w83.heap.size := ⟨_, rfl⟩
        rw [← hgbR] at bR
        have hc8 := from_ hc hax
        have NbQ_bR := Lib.hid (show gbQ ≠ gbR by have h1 := bQ.out.lt; have h2 := hc.size; omega)
        have Or := Lib.hid (or.below hax)
        replace bxs := Lib.hid (bxs.out.below hc8)
        replace bQ := Lib.hid (bQ.out.below hc8)
        replace Oq := Lib.hid (Oq.out.below hc8)
        replace HB := Lib.hid (from_ HB.out hc8)
        clear hc hax hc8 or
        generalize hWx : w83.alloc (.cells #[.bool sR, .slice Dr lR.length dr] 25) = W84 at *
        try simp only [← hgbR]
        clear hWx hgbR
        clear TM SU
        obtain ⟨y85_0, y85_1, y85_2, y85_3, y85_4, y85_5, _, _, _, _, _, _, _⟩ := id bxs.out.1
        obtain ⟨y86_0, y86_1, y86_2, y86_3, y86_4, y86_5, _, _, _, _, _, _, _⟩ := id bxs.out.2.1
        go_wp2_with fail
        refine (DIV.out _ HB.out).mono ?_
        rintro e w87 ⟨Xu, xu, Yu, zu, rfl, vu, tu, hc⟩
        clear y85_0 y85_1 y85_2 y85_3 y85_4 y85_5 y86_0 y86_1 y86_2 y86_3 y86_4 y86_5
        go_upto_region 37 with fail
        have hax : Below w87.heap.size w87 (w87.alloc (.cells #[.bool rD.n0, .bool rD.s0, .slice Xu rD.l0.length xu, .bool rD.n1, .bool rD.s1, .slice Yu rD.l1.length zu] 29)) := (Below.refl _ _).alloc (Nat.le_refl _) _
        have bU := Lib.hid (Box6.new w87 (.bool rD.n0) (.bool rD.s0) (.slice Xu rD.l0.length xu) (.bool rD.n1) (.bool rD.s1) (.slice Yu rD.l1.length zu) 29)
        obtain ⟨gbU, hgbU⟩ : ∃ g, g = w87.heap.size := ⟨_, rfl⟩
        rw [← hgbU] at bU
        have hc8 := from_ hc hax
        have NbQ_bU := Lib.hid (show gbQ ≠ gbU by have h1 := bQ.out.lt; have h2 := hc.size; omega)
        have Vu := Lib.hid (vu.below hax)
        have Tu := Lib.hid (tu.below hax)
        replace bxs := Lib.hid (bxs.out.below hc8)
        replace bQ := Lib.hid (bQ.out.below hc8)
        replace bR := Lib.hid (bR.out.below hc8)
        replace Oq := Lib.hid (Oq.out.below hc8)
        replace Or := Lib.hid (Or.out.below hc8)
        replace HB := Lib.hid (from_ HB.out hc8)
        clear hc hax hc8 vu tu
        generalize hWx : w87.alloc (.cells #[.bool rD.n0, .bool rD.s0, .slice Xu rD.l0.length xu, .bool rD.n1, .bool rD.s1, .slice Yu rD.l1.length zu] 29) = W88 at *
        try simp only [← hgbU]
        clear hWx hgbU
        obtain ⟨y89_0, y89_1, y89_2, y89_3, y89_4, y89_5, _, _, _, _, _, _, _⟩ := id bxs.out.1
        obtain ⟨y90_0, y90_1, y90_2, y90_3, y90_4, y90_5, _, _, _, _, _, _, _⟩ := id bxs.out.2.1
        go_wp2_with fail
        refine (MOD.out _ HB.out).mono ?_
        rintro e w91 ⟨Xw, xw, Yw, zw, rfl, vw, tw, hc⟩
        clear y89_0 y89_1 y89_2 y89_3 y89_4 y89_5 y90_0 y90_1 y90_2 y90_3 y90_4 y90_5
        go_upto_region 38 with fail
        have hax : Below w91.heap.size w91 (w91.alloc (.cells #[.bool rO.n0, .bool rO.s0, .slice Xw rO.l0.length xw, .bool rO.n1, .bool rO.s1, .slice Yw rO.l1.length zw] 29)) := (Below.refl _ _).alloc (Nat.le_refl _) _
        have bW := Lib.hid (Box6.new w91 (.bool rO.n0) (.bool rO.s0) (.slice Xw rO.l0.length xw) (.bool rO.n1) (.bool rO.s1) (.slice Yw rO.l1.length zw) 29)
        obtain ⟨gbW, hgbW⟩ : ∃ g, g = w91.heap.size := ⟨_, rfl⟩
        rw [← hgbW] at bW
        have hc8 := from_ hc hax
        have NbQ_bW := Lib.hid (show gbQ ≠ gbW by have h1 := bQ.out.lt; have h2 := hc.size; omega)
        have Vw := Lib.hid (vw.below hax)
        have Tw := Lib.hid (tw.below hax)
        replace bxs := Lib.hid (bxs.out.below hc8)
        replace bQ := Lib.hid (bQ.out.below hc8)
        replace bR := Lib.hid (bR.out.below hc8)
        replace bU := Lib.hid (bU.out.below hc8)
        replace Oq := Lib.hid (Oq.out.below hc8)
        replace Or := Lib.hid (Or.out.below hc8)
        replace Vu := Lib.hid (Vu.out.below hc8)
        replace Tu := Lib.hid (Tu.out.below hc8)
        replace HB := Lib.hid (from_ HB.out hc8)
        clear hc hax hc8 vw tw
        generalize hWx : w91.alloc (.cells #[.bool rO.n0, .bool rO.s0, .slice Xw rO.l0.length xw, .bool rO.n1, .bool rO.s1, .slice Yw rO.l1.length zw] 29) = W92 at *
        try simp only [← hgbW]
        clear hWx hgbW
        clear DIV MOD
        obtain ⟨y93_0, y93_1, y93_2, y93_3, y93_4, y93_5, _, _, _, _, _, _, _⟩ := id bU.out
        obtain ⟨y94_0, y94_1, _, _, _⟩ := id bQ.out
        go_wp2_with fail
        refine (HSD.out _ _ _ _ _ _ _ _ _ _ Vu.out Tu.out Oq.out).mono ?_
        rintro e w95 ⟨rfl, hc⟩
        clear y93_0 y93_1 y93_2 y93_3 y93_4 y93_5 y94_0 y94_1
        clear bU bQ Vu Tu Oq
        replace bxs := Lib.hid (bxs.out.below hc)
        replace bR := Lib.hid (bR.out.below hc)
        replace bW := Lib.hid (bW.out.below hc)
        replace Or := Lib.hid (Or.out.below hc)
        replace Vw := Lib.hid (Vw.out.below hc)
        replace Tw := Lib.hid (Tw.out.below hc)
        replace HB := Lib.hid (from_ HB.out hc)
        clear hc
        clear HSD
        obtain ⟨y96_0, y96_1, y96_2, y96_3, y96_4, y96_5, _, _, _, _, _, _, _⟩ := id bW.out
        obtain ⟨y97_0, y97_1, _, _, _⟩ := id bR.out
        go_wp2_with fail
        refine (HSO.out _ _ _ _ _ _ _ _ _ _ Vw.out Tw.out Or.out).mono ?_
        rintro e w98 ⟨rfl, hc⟩
        clear y96_0 y96_1 y96_2 y96_3 y96_4 y96_5 y97_0 y97_1
        clear bW bR Vw Tw Or
        replace bxs := Lib.hid (bxs.out.below hc)
        replace HB := Lib.hid (from_ HB.out hc)
        clear hc
        clear HSO
        go_wp2
        go_ret
        exact ⟨by first | rfl | trivial, HB.out⟩

end Go.Proofs.YtennphechbngcaaGreat
