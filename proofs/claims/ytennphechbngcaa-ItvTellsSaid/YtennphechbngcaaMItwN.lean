/-
  Small shared facts: six cells and pairs of cells kept, whether a number is in an interval, quotients rounded down. No conditions but bounds on lengths.
  Places: itv.over, down. No conditions but bounds on lengths.
  Intervals, the program's: what comes of the corners, with over and down. No conditions but bounds on lengths.
  Intervals, the program's: the parts of one below and above 0. No conditions but bounds on lengths.
  Intervals: what is left over, plain; boxes of places that a drawn region makes. No conditions.
  Intervals, the program's: powers of two, for shifts. No conditions but bounds on lengths.
-/
import Derived.Deep.RegionHeld3
import Derived.Test.YtennphechbngcaaMLinB
import Derived.Test.YtennphechbngcaaMItvR
import Derived.Test.YtennphechbngcaaMWhM
import Derived.Test.YtennphechbngcaaMWhJ
import Derived.Test.YtennphechbngcaaMWhU
import Derived.Test.YtennphechbngcaaMRefI
namespace Go.Proofs.Ytennphechbngcaa
open Go.RowKit
set_option linter.unusedVariables false
set_option linter.unusedSimpArgs false

theorem six_keep {W W' : World} {b o : Nat} {a0 a1 a2 a3 a4 a5 : Value} (h : W.cell? ⟨b, o, none⟩ = some a0 ∧ W.cell? ⟨b, o + 1, none⟩ = some a1 ∧ W.cell? ⟨b, o + 2, none⟩ = some a2 ∧ W.cell? ⟨b, o + 3, none⟩ = some a3 ∧ W.cell? ⟨b, o + 4, none⟩ = some a4 ∧ W.cell? ⟨b, o + 5, none⟩ = some a5) (hb : Below W.heap.size W W') : W'.cell? ⟨b, o, none⟩ = some a0 ∧ W'.cell? ⟨b, o + 1, none⟩ = some a1 ∧ W'.cell? ⟨b, o + 2, none⟩ = some a2 ∧ W'.cell? ⟨b, o + 3, none⟩ = some a3 ∧ W'.cell? ⟨b, o + 4, none⟩ = some a4 ∧ W'.cell? ⟨b, o + 5, none⟩ = some a5 :=
  ⟨keepC hb h.1, keepC hb h.2.1, keepC hb h.2.2.1, keepC hb h.2.2.2.1, keepC hb h.2.2.2.2.1, keepC hb h.2.2.2.2.2⟩
theorem six_st6 {W : World} {b o r : Nat} {a0 a1 a2 a3 a4 a5 x0 x1 x2 x3 x4 x5 : Value} (hn : r ≠ b) (h : W.cell? ⟨b, o, none⟩ = some a0 ∧ W.cell? ⟨b, o + 1, none⟩ = some a1 ∧ W.cell? ⟨b, o + 2, none⟩ = some a2 ∧ W.cell? ⟨b, o + 3, none⟩ = some a3 ∧ W.cell? ⟨b, o + 4, none⟩ = some a4 ∧ W.cell? ⟨b, o + 5, none⟩ = some a5) :
    let V := ((((((W.setCell ⟨r, 0, none⟩ x0).setCell ⟨r, 1, none⟩ x1).setCell ⟨r, 2, none⟩ x2).setCell ⟨r, 3, none⟩ x3).setCell ⟨r, 4, none⟩ x4).setCell ⟨r, 5, none⟩ x5)
    V.cell? ⟨b, o, none⟩ = some a0 ∧ V.cell? ⟨b, o + 1, none⟩ = some a1 ∧ V.cell? ⟨b, o + 2, none⟩ = some a2 ∧ V.cell? ⟨b, o + 3, none⟩ = some a3 ∧ V.cell? ⟨b, o + 4, none⟩ = some a4 ∧ V.cell? ⟨b, o + 5, none⟩ = some a5 := ⟨st6 h.1 hn, st6 h.2.1 hn, st6 h.2.2.1 hn, st6 h.2.2.2.1 hn, st6 h.2.2.2.2.1 hn, st6 h.2.2.2.2.2 hn⟩
theorem six_keep0 {W W' : World} {b : Nat} {a0 a1 a2 a3 a4 a5 : Value} (h : W.cell? ⟨b, 0, none⟩ = some a0 ∧ W.cell? ⟨b, 1, none⟩ = some a1 ∧ W.cell? ⟨b, 2, none⟩ = some a2 ∧ W.cell? ⟨b, 3, none⟩ = some a3 ∧ W.cell? ⟨b, 4, none⟩ = some a4 ∧ W.cell? ⟨b, 5, none⟩ = some a5) (hb : Below W.heap.size W W') : W'.cell? ⟨b, 0, none⟩ = some a0 ∧ W'.cell? ⟨b, 1, none⟩ = some a1 ∧ W'.cell? ⟨b, 2, none⟩ = some a2 ∧ W'.cell? ⟨b, 3, none⟩ = some a3 ∧ W'.cell? ⟨b, 4, none⟩ = some a4 ∧ W'.cell? ⟨b, 5, none⟩ = some a5 :=
  ⟨keepC hb h.1, keepC hb h.2.1, keepC hb h.2.2.1, keepC hb h.2.2.2.1, keepC hb h.2.2.2.2.1, keepC hb h.2.2.2.2.2⟩
theorem infoIv : (Try.prog.info? 29).map (fun i => (i.zero, i.size, i.bytes)) = some (some (.agg #[.bool false, .bool false, .slice none 0 0, .bool false, .bool false, .slice none 0 0]), 6, 80) := by kernel_rfl
theorem c2_keep {W V : World} {g i j : Nat} {a b : Value} (hs : W.cell? ⟨g, i, none⟩ = some a ∧ W.cell? ⟨g, j, none⟩ = some b) (hb : Below W.heap.size W V) : V.cell? ⟨g, i, none⟩ = some a ∧ V.cell? ⟨g, j, none⟩ = some b := ⟨keepC hb hs.1, keepC hb hs.2⟩
theorem c2_al {W V : World} {g i j : Nat} {a b : Value} {o : Obj} (e : V = W.alloc o) (hs : W.cell? ⟨g, i, none⟩ = some a ∧ W.cell? ⟨g, j, none⟩ = some b) : V.cell? ⟨g, i, none⟩ = some a ∧ V.cell? ⟨g, j, none⟩ = some b := by
  subst e
  exact c2_keep hs ((Below.refl _ _).alloc (Nat.le_refl _) _)
theorem c2_dr {W V : World} {g i j : Nat} {a b : Value} (e : V = W.drew) (hs : W.cell? ⟨g, i, none⟩ = some a ∧ W.cell? ⟨g, j, none⟩ = some b) : V.cell? ⟨g, i, none⟩ = some a ∧ V.cell? ⟨g, j, none⟩ = some b := by
  subst e
  exact c2_keep hs (Below.refl _ _).drew
theorem c4_keep {W V : World} {g i j h k l : Nat} {a b c d : Value} (hs : (W.cell? ⟨g, i, none⟩ = some a ∧ W.cell? ⟨g, j, none⟩ = some b) ∧ W.cell? ⟨h, k, none⟩ = some c ∧ W.cell? ⟨h, l, none⟩ = some d) (hb : Below W.heap.size W V) : (V.cell? ⟨g, i, none⟩ = some a ∧ V.cell? ⟨g, j, none⟩ = some b) ∧ V.cell? ⟨h, k, none⟩ = some c ∧ V.cell? ⟨h, l, none⟩ = some d := ⟨c2_keep hs.1 hb, c2_keep hs.2 hb⟩
theorem c4_al {W V : World} {g i j h k l : Nat} {a b c d : Value} {o : Obj} (e : V = W.alloc o) (hs : (W.cell? ⟨g, i, none⟩ = some a ∧ W.cell? ⟨g, j, none⟩ = some b) ∧ W.cell? ⟨h, k, none⟩ = some c ∧ W.cell? ⟨h, l, none⟩ = some d) : (V.cell? ⟨g, i, none⟩ = some a ∧ V.cell? ⟨g, j, none⟩ = some b) ∧ V.cell? ⟨h, k, none⟩ = some c ∧ V.cell? ⟨h, l, none⟩ = some d := ⟨c2_al e hs.1, c2_al e hs.2⟩
theorem c4_dr {W V : World} {g i j h k l : Nat} {a b c d : Value} (e : V = W.drew) (hs : (W.cell? ⟨g, i, none⟩ = some a ∧ W.cell? ⟨g, j, none⟩ = some b) ∧ W.cell? ⟨h, k, none⟩ = some c ∧ W.cell? ⟨h, l, none⟩ = some d) : (V.cell? ⟨g, i, none⟩ = some a ∧ V.cell? ⟨g, j, none⟩ = some b) ∧ V.cell? ⟨h, k, none⟩ = some c ∧ V.cell? ⟨h, l, none⟩ = some d := ⟨c2_dr e hs.1, c2_dr e hs.2⟩
theorem wfloor_m {w : World} {Z1 Z2 : Zone} {x y : Int} {s t r : Bool} {l k m : List Nat} {A B : Option Addr} {c d : Nat} (h1 : Nm x s l) (h2 : Nm y t k) (hy : y ≠ 0) (h3 : Nm (rq x y true) r m) (hl : l.length ≤ 10000000000) (u1 : U64s w Z1 A c l) (u2 : U64s w Z2 B d k) :
    Calls Try.prog 87 #[.agg #[.bool s, .slice A l.length c], .agg #[.bool t, .slice B k.length d]] w fun e w' => ∃ Av cv, e = .returned (.tuple #[.agg #[.bool r, .slice Av m.length cv], .int .i64 0]) ∧ U64s w' (new w.heap.size) Av cv m ∧ Below w.heap.size w w' := by
  refine (wfloor_z (h1.isZ u1) (h2.isZ u2) hy (by rw [← h1.len]; exact hl)).mono ?_
  rintro e w' ⟨v, rfl, hv, hb⟩
  obtain ⟨Av, cv, rfl, hu⟩ := h3.of hv
  exact ⟨Av, cv, rfl, hu, hb⟩
theorem same16_yes {w : World} {Z1 Z2 Z3 Z4 : Zone} {p : Iv} {A B C D : Option Addr} {a b c d : Nat} (u1 : U64s w Z1 A a p.l0) (u2 : U64s w Z2 B b p.l1) (u3 : U64s w Z3 C c p.l0) (u4 : U64s w Z4 D d p.l1) :
    Calls Try.prog 22 #[.agg #[.bool p.n0, .bool p.s0, .slice A p.l0.length a, .bool p.n1, .bool p.s1, .slice B p.l1.length b], .agg #[.bool p.n0, .bool p.s0, .slice C p.l0.length c, .bool p.n1, .bool p.s1, .slice D p.l1.length d]] w fun e w' => e = .returned (.bool true) ∧ Below w.heap.size w w' := by
  have h := r16same_any (n0 := p.n0) (s0 := p.s0) (n1 := p.n1) (s1 := p.s1) (m0 := p.n0) (t0 := p.s0) (m1 := p.n1) (t1 := p.s1) u1 u2 u3 u4
  rw [decide_eq_true (show (p.n0 = p.n0 ∧ p.s0 = p.s0 ∧ p.l0 = p.l0) ∧ p.n1 = p.n1 ∧ p.s1 = p.s1 ∧ p.l1 = p.l1 from ⟨⟨rfl, rfl, rfl⟩, rfl, rfl, rfl⟩)] at h
  exact h
def fmOf (Ps : List IvP) : List Iv := Ps.map fun P => ivOf P.1 P.2
theorem fmOf_len (Ps : List IvP) : (fmOf Ps).length = Ps.length := List.length_map _
theorem fmOf_get {Ps : List IvP} {j : Nat} (h : j < (fmOf Ps).length) (h' : j < Ps.length) : (fmOf Ps)[j] = ivOf Ps[j].1 Ps[j].2 := List.getElem_map _

end Go.Proofs.Ytennphechbngcaa

namespace Go.Proofs.Ytennphechbngcaa
open Go.RowKit
set_option linter.unusedVariables false
set_option linter.unusedSimpArgs false

theorem wceil_m {w : World} {Z1 Z2 : Zone} {x y : Int} {s t r : Bool} {l k m : List Nat} {A B : Option Addr} {c d : Nat} (h1 : Nm x s l) (h2 : Nm y t k) (hy : y ≠ 0) (h3 : Nm (rq x y false) r m) (hl : l.length ≤ 10000000000) (u1 : U64s w Z1 A c l) (u2 : U64s w Z2 B d k) :
    Calls Try.prog 86 #[.agg #[.bool s, .slice A l.length c], .agg #[.bool t, .slice B k.length d]] w fun e w' => ∃ Av cv, e = .returned (.tuple #[.agg #[.bool r, .slice Av m.length cv], .int .i64 0]) ∧ U64s w' (new w.heap.size) Av cv m ∧ Below w.heap.size w w' := by
  refine (wceil_z (h1.isZ u1) (h2.isZ u2) hy (by rw [← h1.len]; exact hl)).mono ?_
  rintro e w' ⟨v, rfl, hv, hb⟩
  obtain ⟨Av, cv, rfl, hu⟩ := h3.of hv
  exact ⟨Av, cv, rfl, hu, hb⟩
theorem tq_tdiv (x y : Int) : tq x y = Int.tdiv x y := by
  unfold tq
  cases x with
  | ofNat m =>
    cases y with
    | ofNat n => rfl
    | negSucc n => rw [if_neg (by simp)]; simp [Int.tdiv, Int.natAbs]
  | negSucc m =>
    cases y with
    | ofNat n => rw [if_neg (by simp)]; simp [Int.tdiv, Int.natAbs]
    | negSucc n => rw [if_pos (by simp)]; simp [Int.tdiv, Int.natAbs]
theorem rq_tq {x y : Int} {d : Bool} (h : (x = 0 ∨ (decide (x < 0) != decide (y < 0)) = !d)) : rq x y d = Int.tdiv x y := by
  rw [← tq_tdiv]
  unfold rq
  rcases h with rfl | h
  · rw [if_neg]
    simp [limbs_eq_nil.2]
  · rw [h, if_neg]
    cases d <;> simp
theorem boxD_st3 {W V : World} {g h r : Nat} {a0 a1 a2 b0 b1 b2 x0 x1 x2 : Value} (e : V = (((W.setCell ⟨r, 0, none⟩ x0).setCell ⟨r, 1, none⟩ x1).setCell ⟨r, 2, none⟩ x2)) (hg : r ≠ g) (hh : r ≠ h)
    (hs : W.cell? ⟨g, 0, none⟩ = some a0 ∧ W.cell? ⟨g, 1, none⟩ = some a1 ∧ W.cell? ⟨g, 2, none⟩ = some a2 ∧ W.cell? ⟨h, 0, none⟩ = some b0 ∧ W.cell? ⟨h, 1, none⟩ = some b1 ∧ W.cell? ⟨h, 2, none⟩ = some b2) :
    V.cell? ⟨g, 0, none⟩ = some a0 ∧ V.cell? ⟨g, 1, none⟩ = some a1 ∧ V.cell? ⟨g, 2, none⟩ = some a2 ∧ V.cell? ⟨h, 0, none⟩ = some b0 ∧ V.cell? ⟨h, 1, none⟩ = some b1 ∧ V.cell? ⟨h, 2, none⟩ = some b2 := by
  subst e
  exact ⟨st3 hs.1 hg, st3 hs.2.1 hg, st3 hs.2.2.1 hg, st3 hs.2.2.2.1 hh, st3 hs.2.2.2.2.1 hh, st3 hs.2.2.2.2.2 hh⟩

set_option maxRecDepth 100000 in
set_option maxHeartbeats 8000000 in
theorem iover_p {w : World} {Z Y : Zone} {x y z b d e : Int} {s t r : Bool} {l k m : List Nat} {A B : Option Addr} {c f : Nat} (h1 : Pl x b s l) (h2 : Pl y d t k) (h3 : Pl z e r m) (hz : overE bigZ x y = z) (hy0 : y ≠ 0) (hu : U64s w Z A c l) (hv : U64s w Y B f k) (hl : l.length ≤ 60) (hl2 : k.length ≤ 60) :
    Calls Try.prog 62 #[.agg #[.int .i64 b, .bool s, .slice A l.length c], .agg #[.int .i64 d, .bool t, .slice B k.length f]] w fun e' w' => ∃ A' c', e' = .returned (.agg #[.int .i64 e, .bool r, .slice A' m.length c']) ∧ U64s w' (new w.heap.size) A' c' m ∧ Below w.heap.size w w' := by
  have hbz := bigZ_pos
  have ex := h1.ext hl
  have ey := h2.ext hl2
  rcases h2 with ⟨rfl, n2, g1, g2⟩ | ⟨rfl, rfl, rfl, hy⟩ | ⟨rfl, rfl, rfl, hy⟩
  · obtain ⟨h, hh⟩ : ∃ h, sgn y = h := ⟨_, rfl⟩
    have S2 : Hid (∀ W, Below w.heap.size w W → Calls Try.prog 66 #[.agg #[.int .i64 0, .bool t, .slice B k.length f]] W fun e' w' => e' = .returned (.int .i64 h) ∧ Below W.heap.size W w') := fun W q => isign_p (.inl ⟨rfl, n2, g1, g2⟩) hh (hv.below q)
    have hhv : (h = -1 ∧ y < 0) ∨ (h = 1 ∧ 0 < y) := by
      rw [← hh]
      unfold sgn
      split
      · exact absurd (by assumption) hy0
      · split
        · exact .inl ⟨rfl, by assumption⟩
        · exact .inr ⟨rfl, by omega⟩
    clear hh
    rcases h1 with ⟨rfl, n1, r1, r2⟩ | ⟨rfl, rfl, rfl, hx⟩ | ⟨rfl, rfl, rfl, hx⟩
    · obtain ⟨g, hg⟩ : ∃ g, sgn x = g := ⟨_, rfl⟩
      have S1 : Hid (∀ W, Below w.heap.size w W → Calls Try.prog 66 #[.agg #[.int .i64 0, .bool s, .slice A l.length c]] W fun e' w' => e' = .returned (.int .i64 g) ∧ Below W.heap.size W w') := fun W q => isign_p (.inl ⟨rfl, n1, r1, r2⟩) hg (hu.below q)
      have hgv : (g = 0 ∧ x = 0) ∨ (g = -1 ∧ x < 0) ∨ (g = 1 ∧ 0 < x) := by
        rw [← hg]
        unfold sgn
        split
        · exact .inl ⟨rfl, by assumption⟩
        · split
          · exact .inr (.inl ⟨rfl, by assumption⟩)
          · exact .inr (.inr ⟨rfl, by omega⟩)
      clear hg
      rcases hhv with ⟨rfl, hy0'⟩ | ⟨rfl, hy0'⟩
      · rcases hgv with ⟨rfl, hx0⟩ | ⟨rfl, hx0⟩ | ⟨rfl, hx0⟩
        · have er : rq x y true = z := by
            rw [rq_tq (.inl hx0), ← hz]
            unfold overE
            rw [if_neg (by omega), if_neg (by omega)]
          have hzb : -bigZ < z ∧ z < bigZ := by
            have h1 := tdiv_bd (y := y) ⟨r1, r2⟩
            rw [← hz]
            unfold overE
            rw [if_neg (by omega), if_neg (by omega)]
            exact h1
          obtain ⟨rfl, n3⟩ := h3.fin hzb
          have CA : Hid (∀ W, Below w.heap.size w W → Calls Try.prog 87 #[.agg #[.bool s, .slice A l.length c], .agg #[.bool t, .slice B k.length f]] W fun e w' => ∃ A c, e = .returned (.tuple #[.agg #[.bool r, .slice A m.length c], .int .i64 0]) ∧ U64s w' (new W.heap.size) A c m ∧ Below W.heap.size W w') := fun W q => wfloor_m n1 n2 hy0 (by rw [er]; exact n3) (by omega) (hu.below q) (hv.below q)
          clear hz ex ey h3 hu hv n1 n2 n3 er hzb r1 r2 g1 g2 hl hl2 hy0
          generalize l.length = L1 at *
          generalize k.length = L2 at *
          obtain ⟨bA, bB, bR, hB0⟩ := boxS w (.int .i64 0) (.bool s) (.slice A L1 c) (.int .i64 0) (.bool t) (.slice B L2 f) (.int .i64 0) (.bool false) (.slice none 0 0) 64
          have HA := Lib.hid (bA.below (Below.refl _ _).drew)
          have HBx := Lib.hid (bB.below (Below.refl _ _).drew)
          have HR := Lib.hid (bR.below (Below.refl _ _).drew)
          have Hc := Lib.hid hB0.drew
          have hs := boxD_of HA.out HBx.out
          obtain ⟨a0, a1, a2, _, _, _, _⟩ := bA
          obtain ⟨b0, b1, b2, _, _, _, _⟩ := bB
          clear bR hB0
          go_enter Try.func62, Try.ntmps62
          go_wp2
          clear a0 a1 a2 b0 b1 b2
          first | go_region_held3 (fun w' => w'.cell? ⟨w.heap.size, 0, none⟩ = some (.int .i64 0) ∧ w'.cell? ⟨w.heap.size, 1, none⟩ = some (.bool s) ∧ w'.cell? ⟨w.heap.size, 2, none⟩ = some (.slice A L1 c) ∧ w'.cell? ⟨w.heap.size + 1, 0, none⟩ = some (.int .i64 0) ∧ w'.cell? ⟨w.heap.size + 1, 1, none⟩ = some (.bool t) ∧ w'.cell? ⟨w.heap.size + 1, 2, none⟩ = some (.slice B L2 f))
            (first
              | with_reducible exact hs
              | (with_reducible apply boxD_st3 rfl <;> (first | with_reducible exact hs | omega))
              | (go_keep; done))
            ((go_at_call 66; (first | (with_reducible refine (S1.out _ Hc.out).mono ?_) | (with_reducible refine (S2.out _ Hc.out).mono ?_)); rintro e' w2 ⟨rfl, hc2⟩; replace hs := boxD_keep hs hc2; replace HR := Lib.hid (HR.out.below hc2); replace HA := Lib.hid (HA.out.below hc2); replace HBx := Lib.hid (HBx.out.below hc2); replace Hc := Lib.hid (from_ Hc.out hc2))) | fail
          all_goals
            obtain ⟨p0, p1, p2, _⟩ := HA.out
            obtain ⟨p3, p4, p5, _⟩ := HBx.out
            have HB := Hc
            clear hs
            go_wp2_with fail
            refine (CA.out _ HB.out).mono ?_
            rintro e' w1 ⟨Av, cv, rfl, u1, hc⟩
            clear p0 p1 p2 p3 p4 p5
            have hB1 := from_ HB.out hc
            have bR1 := HR.out.below hc
            have hP := bR1.put hB1 (by omega) (.int .i64 0) (.bool r) (.slice Av m.length cv)
            have HP := Lib.hid hP
            have hal := Lib.hid ((Below.refl _ (((w1.setCell ⟨w.heap.size + 2, 0, none⟩ (.int .i64 0)).setCell ⟨w.heap.size + 2, 1, none⟩ (.bool r)).setCell ⟨w.heap.size + 2, 2, none⟩ (.slice Av m.length cv))).alloc (Nat.le_refl _) (.cells #[.bool r, .slice Av m.length cv] 25))
            have U1 := Lib.hid (((hP.keep (fun (h : _ ≤ w.heap.size + 2) => by have h8 := HR.out.lt; omega) u1).mono (new_le HB.out.size)).below hal.out)
            obtain ⟨q0, q1, q2, f0, f1, f2, z1⟩ := bR1
            obtain ⟨p0, p1, p2, _⟩ := HA.out.below hc
            obtain ⟨p3, p4, p5, _⟩ := HBx.out.below hc
            have y1 : ¬ w1.heap.size = w.heap.size + 2 := by omega
            have y2 : ¬ w.heap.size + 2 = w1.heap.size := by omega
            clear hP u1 hc hB1
            go_wp2
            refine bodyPost_ret (res_place rfl _ (w.heap.size + 2) rfl (keepC hal.out HP.out.c0) (keepC hal.out HP.out.c1) (keepC hal.out HP.out.c2)) rfl ?_
            exact ⟨_, _, rfl, U1.out, from_ HP.out.bel hal.out⟩
        · have er : rq x y true = z := by
            rw [rq_tq (.inr (by simp; omega)), ← hz]
            unfold overE
            rw [if_neg (by omega), if_neg (by omega)]
          have hzb : -bigZ < z ∧ z < bigZ := by
            have h1 := tdiv_bd (y := y) ⟨r1, r2⟩
            rw [← hz]
            unfold overE
            rw [if_neg (by omega), if_neg (by omega)]
            exact h1
          obtain ⟨rfl, n3⟩ := h3.fin hzb
          have CA : Hid (∀ W, Below w.heap.size w W → Calls Try.prog 87 #[.agg #[.bool s, .slice A l.length c], .agg #[.bool t, .slice B k.length f]] W fun e w' => ∃ A c, e = .returned (.tuple #[.agg #[.bool r, .slice A m.length c], .int .i64 0]) ∧ U64s w' (new W.heap.size) A c m ∧ Below W.heap.size W w') := fun W q => wfloor_m n1 n2 hy0 (by rw [er]; exact n3) (by omega) (hu.below q) (hv.below q)
          clear hz ex ey h3 hu hv n1 n2 n3 er hzb r1 r2 g1 g2 hl hl2 hy0
          generalize l.length = L1 at *
          generalize k.length = L2 at *
          obtain ⟨bA, bB, bR, hB0⟩ := boxS w (.int .i64 0) (.bool s) (.slice A L1 c) (.int .i64 0) (.bool t) (.slice B L2 f) (.int .i64 0) (.bool false) (.slice none 0 0) 64
          have HA := Lib.hid (bA.below (Below.refl _ _).drew)
          have HBx := Lib.hid (bB.below (Below.refl _ _).drew)
          have HR := Lib.hid (bR.below (Below.refl _ _).drew)
          have Hc := Lib.hid hB0.drew
          have hs := boxD_of HA.out HBx.out
          obtain ⟨a0, a1, a2, _, _, _, _⟩ := bA
          obtain ⟨b0, b1, b2, _, _, _, _⟩ := bB
          clear bR hB0
          go_enter Try.func62, Try.ntmps62
          go_wp2
          clear a0 a1 a2 b0 b1 b2
          first | go_region_held3 (fun w' => w'.cell? ⟨w.heap.size, 0, none⟩ = some (.int .i64 0) ∧ w'.cell? ⟨w.heap.size, 1, none⟩ = some (.bool s) ∧ w'.cell? ⟨w.heap.size, 2, none⟩ = some (.slice A L1 c) ∧ w'.cell? ⟨w.heap.size + 1, 0, none⟩ = some (.int .i64 0) ∧ w'.cell? ⟨w.heap.size + 1, 1, none⟩ = some (.bool t) ∧ w'.cell? ⟨w.heap.size + 1, 2, none⟩ = some (.slice B L2 f))
            (first
              | with_reducible exact hs
              | (with_reducible apply boxD_st3 rfl <;> (first | with_reducible exact hs | omega))
              | (go_keep; done))
            ((go_at_call 66; (first | (with_reducible refine (S1.out _ Hc.out).mono ?_) | (with_reducible refine (S2.out _ Hc.out).mono ?_)); rintro e' w2 ⟨rfl, hc2⟩; replace hs := boxD_keep hs hc2; replace HR := Lib.hid (HR.out.below hc2); replace HA := Lib.hid (HA.out.below hc2); replace HBx := Lib.hid (HBx.out.below hc2); replace Hc := Lib.hid (from_ Hc.out hc2))) | fail
          all_goals
            obtain ⟨p0, p1, p2, _⟩ := HA.out
            obtain ⟨p3, p4, p5, _⟩ := HBx.out
            have HB := Hc
            clear hs
            go_wp2_with fail
            refine (CA.out _ HB.out).mono ?_
            rintro e' w1 ⟨Av, cv, rfl, u1, hc⟩
            clear p0 p1 p2 p3 p4 p5
            have hB1 := from_ HB.out hc
            have bR1 := HR.out.below hc
            have hP := bR1.put hB1 (by omega) (.int .i64 0) (.bool r) (.slice Av m.length cv)
            have HP := Lib.hid hP
            have hal := Lib.hid ((Below.refl _ (((w1.setCell ⟨w.heap.size + 2, 0, none⟩ (.int .i64 0)).setCell ⟨w.heap.size + 2, 1, none⟩ (.bool r)).setCell ⟨w.heap.size + 2, 2, none⟩ (.slice Av m.length cv))).alloc (Nat.le_refl _) (.cells #[.bool r, .slice Av m.length cv] 25))
            have U1 := Lib.hid (((hP.keep (fun (h : _ ≤ w.heap.size + 2) => by have h8 := HR.out.lt; omega) u1).mono (new_le HB.out.size)).below hal.out)
            obtain ⟨q0, q1, q2, f0, f1, f2, z1⟩ := bR1
            obtain ⟨p0, p1, p2, _⟩ := HA.out.below hc
            obtain ⟨p3, p4, p5, _⟩ := HBx.out.below hc
            have y1 : ¬ w1.heap.size = w.heap.size + 2 := by omega
            have y2 : ¬ w.heap.size + 2 = w1.heap.size := by omega
            clear hP u1 hc hB1
            go_wp2
            refine bodyPost_ret (res_place rfl _ (w.heap.size + 2) rfl (keepC hal.out HP.out.c0) (keepC hal.out HP.out.c1) (keepC hal.out HP.out.c2)) rfl ?_
            exact ⟨_, _, rfl, U1.out, from_ HP.out.bel hal.out⟩
        · have er : rq x y false = z := by
            rw [rq_tq (.inr (by simp; omega)), ← hz]
            unfold overE
            rw [if_neg (by omega), if_neg (by omega)]
          have hzb : -bigZ < z ∧ z < bigZ := by
            have h1 := tdiv_bd (y := y) ⟨r1, r2⟩
            rw [← hz]
            unfold overE
            rw [if_neg (by omega), if_neg (by omega)]
            exact h1
          obtain ⟨rfl, n3⟩ := h3.fin hzb
          have CA : Hid (∀ W, Below w.heap.size w W → Calls Try.prog 86 #[.agg #[.bool s, .slice A l.length c], .agg #[.bool t, .slice B k.length f]] W fun e w' => ∃ A c, e = .returned (.tuple #[.agg #[.bool r, .slice A m.length c], .int .i64 0]) ∧ U64s w' (new W.heap.size) A c m ∧ Below W.heap.size W w') := fun W q => wceil_m n1 n2 hy0 (by rw [er]; exact n3) (by omega) (hu.below q) (hv.below q)
          clear hz ex ey h3 hu hv n1 n2 n3 er hzb r1 r2 g1 g2 hl hl2 hy0
          generalize l.length = L1 at *
          generalize k.length = L2 at *
          obtain ⟨bA, bB, bR, hB0⟩ := boxS w (.int .i64 0) (.bool s) (.slice A L1 c) (.int .i64 0) (.bool t) (.slice B L2 f) (.int .i64 0) (.bool false) (.slice none 0 0) 64
          have HA := Lib.hid (bA.below (Below.refl _ _).drew)
          have HBx := Lib.hid (bB.below (Below.refl _ _).drew)
          have HR := Lib.hid (bR.below (Below.refl _ _).drew)
          have Hc := Lib.hid hB0.drew
          have hs := boxD_of HA.out HBx.out
          obtain ⟨a0, a1, a2, _, _, _, _⟩ := bA
          obtain ⟨b0, b1, b2, _, _, _, _⟩ := bB
          clear bR hB0
          go_enter Try.func62, Try.ntmps62
          go_wp2
          clear a0 a1 a2 b0 b1 b2
          first | go_region_held3 (fun w' => w'.cell? ⟨w.heap.size, 0, none⟩ = some (.int .i64 0) ∧ w'.cell? ⟨w.heap.size, 1, none⟩ = some (.bool s) ∧ w'.cell? ⟨w.heap.size, 2, none⟩ = some (.slice A L1 c) ∧ w'.cell? ⟨w.heap.size + 1, 0, none⟩ = some (.int .i64 0) ∧ w'.cell? ⟨w.heap.size + 1, 1, none⟩ = some (.bool t) ∧ w'.cell? ⟨w.heap.size + 1, 2, none⟩ = some (.slice B L2 f))
            (first
              | with_reducible exact hs
              | (with_reducible apply boxD_st3 rfl <;> (first | with_reducible exact hs | omega))
              | (go_keep; done))
            ((go_at_call 66; (first | (with_reducible refine (S1.out _ Hc.out).mono ?_) | (with_reducible refine (S2.out _ Hc.out).mono ?_)); rintro e' w2 ⟨rfl, hc2⟩; replace hs := boxD_keep hs hc2; replace HR := Lib.hid (HR.out.below hc2); replace HA := Lib.hid (HA.out.below hc2); replace HBx := Lib.hid (HBx.out.below hc2); replace Hc := Lib.hid (from_ Hc.out hc2))) | fail
          all_goals
            obtain ⟨p0, p1, p2, _⟩ := HA.out
            obtain ⟨p3, p4, p5, _⟩ := HBx.out
            have HB := Hc
            clear hs
            go_wp2_with fail
            refine (CA.out _ HB.out).mono ?_
            rintro e' w1 ⟨Av, cv, rfl, u1, hc⟩
            clear p0 p1 p2 p3 p4 p5
            have hB1 := from_ HB.out hc
            have bR1 := HR.out.below hc
            have hP := bR1.put hB1 (by omega) (.int .i64 0) (.bool r) (.slice Av m.length cv)
            have HP := Lib.hid hP
            have hal := Lib.hid ((Below.refl _ (((w1.setCell ⟨w.heap.size + 2, 0, none⟩ (.int .i64 0)).setCell ⟨w.heap.size + 2, 1, none⟩ (.bool r)).setCell ⟨w.heap.size + 2, 2, none⟩ (.slice Av m.length cv))).alloc (Nat.le_refl _) (.cells #[.bool r, .slice Av m.length cv] 25))
            have U1 := Lib.hid (((hP.keep (fun (h : _ ≤ w.heap.size + 2) => by have h8 := HR.out.lt; omega) u1).mono (new_le HB.out.size)).below hal.out)
            obtain ⟨q0, q1, q2, f0, f1, f2, z1⟩ := bR1
            obtain ⟨p0, p1, p2, _⟩ := HA.out.below hc
            obtain ⟨p3, p4, p5, _⟩ := HBx.out.below hc
            have y1 : ¬ w1.heap.size = w.heap.size + 2 := by omega
            have y2 : ¬ w.heap.size + 2 = w1.heap.size := by omega
            clear hP u1 hc hB1
            go_wp2
            refine bodyPost_ret (res_place rfl _ (w.heap.size + 2) rfl (keepC hal.out HP.out.c0) (keepC hal.out HP.out.c1) (keepC hal.out HP.out.c2)) rfl ?_
            exact ⟨_, _, rfl, U1.out, from_ HP.out.bel hal.out⟩
      · rcases hgv with ⟨rfl, hx0⟩ | ⟨rfl, hx0⟩ | ⟨rfl, hx0⟩
        · have er : rq x y true = z := by
            rw [rq_tq (.inl hx0), ← hz]
            unfold overE
            rw [if_neg (by omega), if_neg (by omega)]
          have hzb : -bigZ < z ∧ z < bigZ := by
            have h1 := tdiv_bd (y := y) ⟨r1, r2⟩
            rw [← hz]
            unfold overE
            rw [if_neg (by omega), if_neg (by omega)]
            exact h1
          obtain ⟨rfl, n3⟩ := h3.fin hzb
          have CA : Hid (∀ W, Below w.heap.size w W → Calls Try.prog 87 #[.agg #[.bool s, .slice A l.length c], .agg #[.bool t, .slice B k.length f]] W fun e w' => ∃ A c, e = .returned (.tuple #[.agg #[.bool r, .slice A m.length c], .int .i64 0]) ∧ U64s w' (new W.heap.size) A c m ∧ Below W.heap.size W w') := fun W q => wfloor_m n1 n2 hy0 (by rw [er]; exact n3) (by omega) (hu.below q) (hv.below q)
          clear hz ex ey h3 hu hv n1 n2 n3 er hzb r1 r2 g1 g2 hl hl2 hy0
          generalize l.length = L1 at *
          generalize k.length = L2 at *
          obtain ⟨bA, bB, bR, hB0⟩ := boxS w (.int .i64 0) (.bool s) (.slice A L1 c) (.int .i64 0) (.bool t) (.slice B L2 f) (.int .i64 0) (.bool false) (.slice none 0 0) 64
          have HA := Lib.hid (bA.below (Below.refl _ _).drew)
          have HBx := Lib.hid (bB.below (Below.refl _ _).drew)
          have HR := Lib.hid (bR.below (Below.refl _ _).drew)
          have Hc := Lib.hid hB0.drew
          have hs := boxD_of HA.out HBx.out
          obtain ⟨a0, a1, a2, _, _, _, _⟩ := bA
          obtain ⟨b0, b1, b2, _, _, _, _⟩ := bB
          clear bR hB0
          go_enter Try.func62, Try.ntmps62
          go_wp2
          clear a0 a1 a2 b0 b1 b2
          first | go_region_held3 (fun w' => w'.cell? ⟨w.heap.size, 0, none⟩ = some (.int .i64 0) ∧ w'.cell? ⟨w.heap.size, 1, none⟩ = some (.bool s) ∧ w'.cell? ⟨w.heap.size, 2, none⟩ = some (.slice A L1 c) ∧ w'.cell? ⟨w.heap.size + 1, 0, none⟩ = some (.int .i64 0) ∧ w'.cell? ⟨w.heap.size + 1, 1, none⟩ = some (.bool t) ∧ w'.cell? ⟨w.heap.size + 1, 2, none⟩ = some (.slice B L2 f))
            (first
              | with_reducible exact hs
              | (with_reducible apply boxD_st3 rfl <;> (first | with_reducible exact hs | omega))
              | (go_keep; done))
            ((go_at_call 66; (first | (with_reducible refine (S1.out _ Hc.out).mono ?_) | (with_reducible refine (S2.out _ Hc.out).mono ?_)); rintro e' w2 ⟨rfl, hc2⟩; replace hs := boxD_keep hs hc2; replace HR := Lib.hid (HR.out.below hc2); replace HA := Lib.hid (HA.out.below hc2); replace HBx := Lib.hid (HBx.out.below hc2); replace Hc := Lib.hid (from_ Hc.out hc2))) | fail
          all_goals
            obtain ⟨p0, p1, p2, _⟩ := HA.out
            obtain ⟨p3, p4, p5, _⟩ := HBx.out
            have HB := Hc
            clear hs
            go_wp2_with fail
            refine (CA.out _ HB.out).mono ?_
            rintro e' w1 ⟨Av, cv, rfl, u1, hc⟩
            clear p0 p1 p2 p3 p4 p5
            have hB1 := from_ HB.out hc
            have bR1 := HR.out.below hc
            have hP := bR1.put hB1 (by omega) (.int .i64 0) (.bool r) (.slice Av m.length cv)
            have HP := Lib.hid hP
            have hal := Lib.hid ((Below.refl _ (((w1.setCell ⟨w.heap.size + 2, 0, none⟩ (.int .i64 0)).setCell ⟨w.heap.size + 2, 1, none⟩ (.bool r)).setCell ⟨w.heap.size + 2, 2, none⟩ (.slice Av m.length cv))).alloc (Nat.le_refl _) (.cells #[.bool r, .slice Av m.length cv] 25))
            have U1 := Lib.hid (((hP.keep (fun (h : _ ≤ w.heap.size + 2) => by have h8 := HR.out.lt; omega) u1).mono (new_le HB.out.size)).below hal.out)
            obtain ⟨q0, q1, q2, f0, f1, f2, z1⟩ := bR1
            obtain ⟨p0, p1, p2, _⟩ := HA.out.below hc
            obtain ⟨p3, p4, p5, _⟩ := HBx.out.below hc
            have y1 : ¬ w1.heap.size = w.heap.size + 2 := by omega
            have y2 : ¬ w.heap.size + 2 = w1.heap.size := by omega
            clear hP u1 hc hB1
            go_wp2
            refine bodyPost_ret (res_place rfl _ (w.heap.size + 2) rfl (keepC hal.out HP.out.c0) (keepC hal.out HP.out.c1) (keepC hal.out HP.out.c2)) rfl ?_
            exact ⟨_, _, rfl, U1.out, from_ HP.out.bel hal.out⟩
        · have er : rq x y false = z := by
            rw [rq_tq (.inr (by simp; omega)), ← hz]
            unfold overE
            rw [if_neg (by omega), if_neg (by omega)]
          have hzb : -bigZ < z ∧ z < bigZ := by
            have h1 := tdiv_bd (y := y) ⟨r1, r2⟩
            rw [← hz]
            unfold overE
            rw [if_neg (by omega), if_neg (by omega)]
            exact h1
          obtain ⟨rfl, n3⟩ := h3.fin hzb
          have CA : Hid (∀ W, Below w.heap.size w W → Calls Try.prog 86 #[.agg #[.bool s, .slice A l.length c], .agg #[.bool t, .slice B k.length f]] W fun e w' => ∃ A c, e = .returned (.tuple #[.agg #[.bool r, .slice A m.length c], .int .i64 0]) ∧ U64s w' (new W.heap.size) A c m ∧ Below W.heap.size W w') := fun W q => wceil_m n1 n2 hy0 (by rw [er]; exact n3) (by omega) (hu.below q) (hv.below q)
          clear hz ex ey h3 hu hv n1 n2 n3 er hzb r1 r2 g1 g2 hl hl2 hy0
          generalize l.length = L1 at *
          generalize k.length = L2 at *
          obtain ⟨bA, bB, bR, hB0⟩ := boxS w (.int .i64 0) (.bool s) (.slice A L1 c) (.int .i64 0) (.bool t) (.slice B L2 f) (.int .i64 0) (.bool false) (.slice none 0 0) 64
          have HA := Lib.hid (bA.below (Below.refl _ _).drew)
          have HBx := Lib.hid (bB.below (Below.refl _ _).drew)
          have HR := Lib.hid (bR.below (Below.refl _ _).drew)
          have Hc := Lib.hid hB0.drew
          have hs := boxD_of HA.out HBx.out
          obtain ⟨a0, a1, a2, _, _, _, _⟩ := bA
          obtain ⟨b0, b1, b2, _, _, _, _⟩ := bB
          clear bR hB0
          go_enter Try.func62, Try.ntmps62
          go_wp2
          clear a0 a1 a2 b0 b1 b2
          first | go_region_held3 (fun w' => w'.cell? ⟨w.heap.size, 0, none⟩ = some (.int .i64 0) ∧ w'.cell? ⟨w.heap.size, 1, none⟩ = some (.bool s) ∧ w'.cell? ⟨w.heap.size, 2, none⟩ = some (.slice A L1 c) ∧ w'.cell? ⟨w.heap.size + 1, 0, none⟩ = some (.int .i64 0) ∧ w'.cell? ⟨w.heap.size + 1, 1, none⟩ = some (.bool t) ∧ w'.cell? ⟨w.heap.size + 1, 2, none⟩ = some (.slice B L2 f))
            (first
              | with_reducible exact hs
              | (with_reducible apply boxD_st3 rfl <;> (first | with_reducible exact hs | omega))
              | (go_keep; done))
            ((go_at_call 66; (first | (with_reducible refine (S1.out _ Hc.out).mono ?_) | (with_reducible refine (S2.out _ Hc.out).mono ?_)); rintro e' w2 ⟨rfl, hc2⟩; replace hs := boxD_keep hs hc2; replace HR := Lib.hid (HR.out.below hc2); replace HA := Lib.hid (HA.out.below hc2); replace HBx := Lib.hid (HBx.out.below hc2); replace Hc := Lib.hid (from_ Hc.out hc2))) | fail
          all_goals
            obtain ⟨p0, p1, p2, _⟩ := HA.out
            obtain ⟨p3, p4, p5, _⟩ := HBx.out
            have HB := Hc
            clear hs
            go_wp2_with fail
            refine (CA.out _ HB.out).mono ?_
            rintro e' w1 ⟨Av, cv, rfl, u1, hc⟩
            clear p0 p1 p2 p3 p4 p5
            have hB1 := from_ HB.out hc
            have bR1 := HR.out.below hc
            have hP := bR1.put hB1 (by omega) (.int .i64 0) (.bool r) (.slice Av m.length cv)
            have HP := Lib.hid hP
            have hal := Lib.hid ((Below.refl _ (((w1.setCell ⟨w.heap.size + 2, 0, none⟩ (.int .i64 0)).setCell ⟨w.heap.size + 2, 1, none⟩ (.bool r)).setCell ⟨w.heap.size + 2, 2, none⟩ (.slice Av m.length cv))).alloc (Nat.le_refl _) (.cells #[.bool r, .slice Av m.length cv] 25))
            have U1 := Lib.hid (((hP.keep (fun (h : _ ≤ w.heap.size + 2) => by have h8 := HR.out.lt; omega) u1).mono (new_le HB.out.size)).below hal.out)
            obtain ⟨q0, q1, q2, f0, f1, f2, z1⟩ := bR1
            obtain ⟨p0, p1, p2, _⟩ := HA.out.below hc
            obtain ⟨p3, p4, p5, _⟩ := HBx.out.below hc
            have y1 : ¬ w1.heap.size = w.heap.size + 2 := by omega
            have y2 : ¬ w.heap.size + 2 = w1.heap.size := by omega
            clear hP u1 hc hB1
            go_wp2
            refine bodyPost_ret (res_place rfl _ (w.heap.size + 2) rfl (keepC hal.out HP.out.c0) (keepC hal.out HP.out.c1) (keepC hal.out HP.out.c2)) rfl ?_
            exact ⟨_, _, rfl, U1.out, from_ HP.out.bel hal.out⟩
        · have er : rq x y true = z := by
            rw [rq_tq (.inr (by simp; omega)), ← hz]
            unfold overE
            rw [if_neg (by omega), if_neg (by omega)]
          have hzb : -bigZ < z ∧ z < bigZ := by
            have h1 := tdiv_bd (y := y) ⟨r1, r2⟩
            rw [← hz]
            unfold overE
            rw [if_neg (by omega), if_neg (by omega)]
            exact h1
          obtain ⟨rfl, n3⟩ := h3.fin hzb
          have CA : Hid (∀ W, Below w.heap.size w W → Calls Try.prog 87 #[.agg #[.bool s, .slice A l.length c], .agg #[.bool t, .slice B k.length f]] W fun e w' => ∃ A c, e = .returned (.tuple #[.agg #[.bool r, .slice A m.length c], .int .i64 0]) ∧ U64s w' (new W.heap.size) A c m ∧ Below W.heap.size W w') := fun W q => wfloor_m n1 n2 hy0 (by rw [er]; exact n3) (by omega) (hu.below q) (hv.below q)
          clear hz ex ey h3 hu hv n1 n2 n3 er hzb r1 r2 g1 g2 hl hl2 hy0
          generalize l.length = L1 at *
          generalize k.length = L2 at *
          obtain ⟨bA, bB, bR, hB0⟩ := boxS w (.int .i64 0) (.bool s) (.slice A L1 c) (.int .i64 0) (.bool t) (.slice B L2 f) (.int .i64 0) (.bool false) (.slice none 0 0) 64
          have HA := Lib.hid (bA.below (Below.refl _ _).drew)
          have HBx := Lib.hid (bB.below (Below.refl _ _).drew)
          have HR := Lib.hid (bR.below (Below.refl _ _).drew)
          have Hc := Lib.hid hB0.drew
          have hs := boxD_of HA.out HBx.out
          obtain ⟨a0, a1, a2, _, _, _, _⟩ := bA
          obtain ⟨b0, b1, b2, _, _, _, _⟩ := bB
          clear bR hB0
          go_enter Try.func62, Try.ntmps62
          go_wp2
          clear a0 a1 a2 b0 b1 b2
          first | go_region_held3 (fun w' => w'.cell? ⟨w.heap.size, 0, none⟩ = some (.int .i64 0) ∧ w'.cell? ⟨w.heap.size, 1, none⟩ = some (.bool s) ∧ w'.cell? ⟨w.heap.size, 2, none⟩ = some (.slice A L1 c) ∧ w'.cell? ⟨w.heap.size + 1, 0, none⟩ = some (.int .i64 0) ∧ w'.cell? ⟨w.heap.size + 1, 1, none⟩ = some (.bool t) ∧ w'.cell? ⟨w.heap.size + 1, 2, none⟩ = some (.slice B L2 f))
            (first
              | with_reducible exact hs
              | (with_reducible apply boxD_st3 rfl <;> (first | with_reducible exact hs | omega))
              | (go_keep; done))
            ((go_at_call 66; (first | (with_reducible refine (S1.out _ Hc.out).mono ?_) | (with_reducible refine (S2.out _ Hc.out).mono ?_)); rintro e' w2 ⟨rfl, hc2⟩; replace hs := boxD_keep hs hc2; replace HR := Lib.hid (HR.out.below hc2); replace HA := Lib.hid (HA.out.below hc2); replace HBx := Lib.hid (HBx.out.below hc2); replace Hc := Lib.hid (from_ Hc.out hc2))) | fail
          all_goals
            obtain ⟨p0, p1, p2, _⟩ := HA.out
            obtain ⟨p3, p4, p5, _⟩ := HBx.out
            have HB := Hc
            clear hs
            go_wp2_with fail
            refine (CA.out _ HB.out).mono ?_
            rintro e' w1 ⟨Av, cv, rfl, u1, hc⟩
            clear p0 p1 p2 p3 p4 p5
            have hB1 := from_ HB.out hc
            have bR1 := HR.out.below hc
            have hP := bR1.put hB1 (by omega) (.int .i64 0) (.bool r) (.slice Av m.length cv)
            have HP := Lib.hid hP
            have hal := Lib.hid ((Below.refl _ (((w1.setCell ⟨w.heap.size + 2, 0, none⟩ (.int .i64 0)).setCell ⟨w.heap.size + 2, 1, none⟩ (.bool r)).setCell ⟨w.heap.size + 2, 2, none⟩ (.slice Av m.length cv))).alloc (Nat.le_refl _) (.cells #[.bool r, .slice Av m.length cv] 25))
            have U1 := Lib.hid (((hP.keep (fun (h : _ ≤ w.heap.size + 2) => by have h8 := HR.out.lt; omega) u1).mono (new_le HB.out.size)).below hal.out)
            obtain ⟨q0, q1, q2, f0, f1, f2, z1⟩ := bR1
            obtain ⟨p0, p1, p2, _⟩ := HA.out.below hc
            obtain ⟨p3, p4, p5, _⟩ := HBx.out.below hc
            have y1 : ¬ w1.heap.size = w.heap.size + 2 := by omega
            have y2 : ¬ w.heap.size + 2 = w1.heap.size := by omega
            clear hP u1 hc hB1
            go_wp2
            refine bodyPost_ret (res_place rfl _ (w.heap.size + 2) rfl (keepC hal.out HP.out.c0) (keepC hal.out HP.out.c1) (keepC hal.out HP.out.c2)) rfl ?_
            exact ⟨_, _, rfl, U1.out, from_ HP.out.bel hal.out⟩
    · rcases hhv with ⟨rfl, hy0'⟩ | ⟨rfl, hy0'⟩
      · obtain ⟨rfl, rfl, rfl⟩ := h3.bot (by
          rw [← hz]
          unfold overE
          rw [if_neg (by omega), if_pos (by omega), if_neg (by omega)])
        clear hz ex ey hu hv hl hl2 hy0
        generalize k.length = L2 at *
        simp only [List.length_nil] at *
        obtain ⟨bA, bB, bR, hB0⟩ := boxS w (.int .i64 1) (.bool false) (.slice A 0 c) (.int .i64 0) (.bool t) (.slice B L2 f) (.int .i64 0) (.bool false) (.slice none 0 0) 64
        have HA := Lib.hid (bA.below (Below.refl _ _).drew)
        have HBx := Lib.hid (bB.below (Below.refl _ _).drew)
        have HR := Lib.hid (bR.below (Below.refl _ _).drew)
        have Hc := Lib.hid hB0.drew
        have hs := boxD_of HA.out HBx.out
        obtain ⟨a0, a1, a2, _, _, _, _⟩ := bA
        obtain ⟨b0, b1, b2, _, _, _, _⟩ := bB
        clear bR hB0
        go_enter Try.func62, Try.ntmps62
        go_wp2
        clear a0 a1 a2 b0 b1 b2
        first | go_region_held3 (fun w' => w'.cell? ⟨w.heap.size, 0, none⟩ = some (.int .i64 1) ∧ w'.cell? ⟨w.heap.size, 1, none⟩ = some (.bool false) ∧ w'.cell? ⟨w.heap.size, 2, none⟩ = some (.slice A 0 c) ∧ w'.cell? ⟨w.heap.size + 1, 0, none⟩ = some (.int .i64 0) ∧ w'.cell? ⟨w.heap.size + 1, 1, none⟩ = some (.bool t) ∧ w'.cell? ⟨w.heap.size + 1, 2, none⟩ = some (.slice B L2 f))
          (first
            | with_reducible exact hs
            | (with_reducible apply boxD_st3 rfl <;> (first | with_reducible exact hs | omega))
            | (go_keep; done))
          ((go_at_call 66; with_reducible refine (S2.out _ Hc.out).mono ?_; rintro e' w2 ⟨rfl, hc2⟩; replace hs := boxD_keep hs hc2; replace HR := Lib.hid (HR.out.below hc2); replace HA := Lib.hid (HA.out.below hc2); replace HBx := Lib.hid (HBx.out.below hc2); replace Hc := Lib.hid (from_ Hc.out hc2); obtain ⟨q0, q1, q2, f0, f1, f2, _⟩ := id HR.out)) | fail
        all_goals
          have HP := Lib.hid (HR.out.put Hc.out (by omega) (.int .i64 (-1)) (.bool false) (.slice none 0 0))
          obtain ⟨p0, p1, p2, _⟩ := HA.out
          obtain ⟨p3, p4, p5, _⟩ := HBx.out
          clear hs
          go_wp2
          refine bodyPost_ret (res_place rfl _ (w.heap.size + 2) rfl HP.out.c0 HP.out.c1 HP.out.c2) rfl ?_
          exact ⟨none, 0, rfl, U64s.nil _ _, HP.out.bel⟩
      · obtain ⟨rfl, rfl, rfl⟩ := h3.top (by
          rw [← hz]
          unfold overE
          rw [if_neg (by omega), if_pos (by omega), if_pos (by omega)])
        clear hz ex ey hu hv hl hl2 hy0
        generalize k.length = L2 at *
        simp only [List.length_nil] at *
        obtain ⟨bA, bB, bR, hB0⟩ := boxS w (.int .i64 1) (.bool false) (.slice A 0 c) (.int .i64 0) (.bool t) (.slice B L2 f) (.int .i64 0) (.bool false) (.slice none 0 0) 64
        have HA := Lib.hid (bA.below (Below.refl _ _).drew)
        have HBx := Lib.hid (bB.below (Below.refl _ _).drew)
        have HR := Lib.hid (bR.below (Below.refl _ _).drew)
        have Hc := Lib.hid hB0.drew
        have hs := boxD_of HA.out HBx.out
        obtain ⟨a0, a1, a2, _, _, _, _⟩ := bA
        obtain ⟨b0, b1, b2, _, _, _, _⟩ := bB
        clear bR hB0
        go_enter Try.func62, Try.ntmps62
        go_wp2
        clear a0 a1 a2 b0 b1 b2
        first | go_region_held3 (fun w' => w'.cell? ⟨w.heap.size, 0, none⟩ = some (.int .i64 1) ∧ w'.cell? ⟨w.heap.size, 1, none⟩ = some (.bool false) ∧ w'.cell? ⟨w.heap.size, 2, none⟩ = some (.slice A 0 c) ∧ w'.cell? ⟨w.heap.size + 1, 0, none⟩ = some (.int .i64 0) ∧ w'.cell? ⟨w.heap.size + 1, 1, none⟩ = some (.bool t) ∧ w'.cell? ⟨w.heap.size + 1, 2, none⟩ = some (.slice B L2 f))
          (first
            | with_reducible exact hs
            | (with_reducible apply boxD_st3 rfl <;> (first | with_reducible exact hs | omega))
            | (go_keep; done))
          ((go_at_call 66; with_reducible refine (S2.out _ Hc.out).mono ?_; rintro e' w2 ⟨rfl, hc2⟩; replace hs := boxD_keep hs hc2; replace HR := Lib.hid (HR.out.below hc2); replace HA := Lib.hid (HA.out.below hc2); replace HBx := Lib.hid (HBx.out.below hc2); replace Hc := Lib.hid (from_ Hc.out hc2); obtain ⟨q0, q1, q2, f0, f1, f2, _⟩ := id HR.out)) | fail
        all_goals
          have HP := Lib.hid (HR.out.put Hc.out (by omega) (.int .i64 (1)) (.bool false) (.slice none 0 0))
          obtain ⟨p0, p1, p2, _⟩ := HA.out
          obtain ⟨p3, p4, p5, _⟩ := HBx.out
          clear hs
          go_wp2
          refine bodyPost_ret (res_place rfl _ (w.heap.size + 2) rfl HP.out.c0 HP.out.c1 HP.out.c2) rfl ?_
          exact ⟨none, 0, rfl, U64s.nil _ _, HP.out.bel⟩
    · rcases hhv with ⟨rfl, hy0'⟩ | ⟨rfl, hy0'⟩
      · obtain ⟨rfl, rfl, rfl⟩ := h3.top (by
          rw [← hz]
          unfold overE
          rw [if_neg (by omega), if_pos (by omega), if_pos (by omega)])
        clear hz ex ey hu hv hl hl2 hy0
        generalize k.length = L2 at *
        simp only [List.length_nil] at *
        obtain ⟨bA, bB, bR, hB0⟩ := boxS w (.int .i64 (-1)) (.bool false) (.slice A 0 c) (.int .i64 0) (.bool t) (.slice B L2 f) (.int .i64 0) (.bool false) (.slice none 0 0) 64
        have HA := Lib.hid (bA.below (Below.refl _ _).drew)
        have HBx := Lib.hid (bB.below (Below.refl _ _).drew)
        have HR := Lib.hid (bR.below (Below.refl _ _).drew)
        have Hc := Lib.hid hB0.drew
        have hs := boxD_of HA.out HBx.out
        obtain ⟨a0, a1, a2, _, _, _, _⟩ := bA
        obtain ⟨b0, b1, b2, _, _, _, _⟩ := bB
        clear bR hB0
        go_enter Try.func62, Try.ntmps62
        go_wp2
        clear a0 a1 a2 b0 b1 b2
        first | go_region_held3 (fun w' => w'.cell? ⟨w.heap.size, 0, none⟩ = some (.int .i64 (-1)) ∧ w'.cell? ⟨w.heap.size, 1, none⟩ = some (.bool false) ∧ w'.cell? ⟨w.heap.size, 2, none⟩ = some (.slice A 0 c) ∧ w'.cell? ⟨w.heap.size + 1, 0, none⟩ = some (.int .i64 0) ∧ w'.cell? ⟨w.heap.size + 1, 1, none⟩ = some (.bool t) ∧ w'.cell? ⟨w.heap.size + 1, 2, none⟩ = some (.slice B L2 f))
          (first
            | with_reducible exact hs
            | (with_reducible apply boxD_st3 rfl <;> (first | with_reducible exact hs | omega))
            | (go_keep; done))
          ((go_at_call 66; with_reducible refine (S2.out _ Hc.out).mono ?_; rintro e' w2 ⟨rfl, hc2⟩; replace hs := boxD_keep hs hc2; replace HR := Lib.hid (HR.out.below hc2); replace HA := Lib.hid (HA.out.below hc2); replace HBx := Lib.hid (HBx.out.below hc2); replace Hc := Lib.hid (from_ Hc.out hc2); obtain ⟨q0, q1, q2, f0, f1, f2, _⟩ := id HR.out)) | fail
        all_goals
          have HP := Lib.hid (HR.out.put Hc.out (by omega) (.int .i64 (1)) (.bool false) (.slice none 0 0))
          obtain ⟨p0, p1, p2, _⟩ := HA.out
          obtain ⟨p3, p4, p5, _⟩ := HBx.out
          clear hs
          go_wp2
          refine bodyPost_ret (res_place rfl _ (w.heap.size + 2) rfl HP.out.c0 HP.out.c1 HP.out.c2) rfl ?_
          exact ⟨none, 0, rfl, U64s.nil _ _, HP.out.bel⟩
      · obtain ⟨rfl, rfl, rfl⟩ := h3.bot (by
          rw [← hz]
          unfold overE
          rw [if_neg (by omega), if_pos (by omega), if_neg (by omega)])
        clear hz ex ey hu hv hl hl2 hy0
        generalize k.length = L2 at *
        simp only [List.length_nil] at *
        obtain ⟨bA, bB, bR, hB0⟩ := boxS w (.int .i64 (-1)) (.bool false) (.slice A 0 c) (.int .i64 0) (.bool t) (.slice B L2 f) (.int .i64 0) (.bool false) (.slice none 0 0) 64
        have HA := Lib.hid (bA.below (Below.refl _ _).drew)
        have HBx := Lib.hid (bB.below (Below.refl _ _).drew)
        have HR := Lib.hid (bR.below (Below.refl _ _).drew)
        have Hc := Lib.hid hB0.drew
        have hs := boxD_of HA.out HBx.out
        obtain ⟨a0, a1, a2, _, _, _, _⟩ := bA
        obtain ⟨b0, b1, b2, _, _, _, _⟩ := bB
        clear bR hB0
        go_enter Try.func62, Try.ntmps62
        go_wp2
        clear a0 a1 a2 b0 b1 b2
        first | go_region_held3 (fun w' => w'.cell? ⟨w.heap.size, 0, none⟩ = some (.int .i64 (-1)) ∧ w'.cell? ⟨w.heap.size, 1, none⟩ = some (.bool false) ∧ w'.cell? ⟨w.heap.size, 2, none⟩ = some (.slice A 0 c) ∧ w'.cell? ⟨w.heap.size + 1, 0, none⟩ = some (.int .i64 0) ∧ w'.cell? ⟨w.heap.size + 1, 1, none⟩ = some (.bool t) ∧ w'.cell? ⟨w.heap.size + 1, 2, none⟩ = some (.slice B L2 f))
          (first
            | with_reducible exact hs
            | (with_reducible apply boxD_st3 rfl <;> (first | with_reducible exact hs | omega))
            | (go_keep; done))
          ((go_at_call 66; with_reducible refine (S2.out _ Hc.out).mono ?_; rintro e' w2 ⟨rfl, hc2⟩; replace hs := boxD_keep hs hc2; replace HR := Lib.hid (HR.out.below hc2); replace HA := Lib.hid (HA.out.below hc2); replace HBx := Lib.hid (HBx.out.below hc2); replace Hc := Lib.hid (from_ Hc.out hc2); obtain ⟨q0, q1, q2, f0, f1, f2, _⟩ := id HR.out)) | fail
        all_goals
          have HP := Lib.hid (HR.out.put Hc.out (by omega) (.int .i64 (-1)) (.bool false) (.slice none 0 0))
          obtain ⟨p0, p1, p2, _⟩ := HA.out
          obtain ⟨p3, p4, p5, _⟩ := HBx.out
          clear hs
          go_wp2
          refine bodyPost_ret (res_place rfl _ (w.heap.size + 2) rfl HP.out.c0 HP.out.c1 HP.out.c2) rfl ?_
          exact ⟨none, 0, rfl, U64s.nil _ _, HP.out.bel⟩
  · obtain ⟨rfl, rfl, rfl⟩ : e = 0 ∧ r = false ∧ m = [] := by
      have ez : z = 0 := by
        rw [← hz]
        unfold overE
        rw [if_pos (by omega)]
      obtain ⟨e1, n3⟩ := h3.fin (by omega)
      refine ⟨e1, ?_, ?_⟩
      · rw [n3.1, ez]; rfl
      · rw [n3.2, ez]; exact limbs_eq_nil.2 rfl
    clear hz ex ey h1 h3 hu hv hl hl2 hy0
    generalize l.length = L1 at *
    simp only [List.length_nil] at *
    obtain ⟨bA, bB, bR, hB0⟩ := boxS w (.int .i64 b) (.bool s) (.slice A L1 c) (.int .i64 1) (.bool false) (.slice B 0 f) (.int .i64 0) (.bool false) (.slice none 0 0) 64
    have HA := Lib.hid bA
    have HBx := Lib.hid bB
    have HR := Lib.hid bR
    have HB := Lib.hid hB0
    obtain ⟨a0, a1, a2, _, _, _, _⟩ := bA
    obtain ⟨b0, b1, b2, _, _, _, _⟩ := bB
    obtain ⟨_, _, cR, hC0⟩ := boxS w (.int .i64 b) (.bool s) (.slice A L1 c) (.int .i64 1) (.bool false) (.slice B 0 f) (.int .i64 (0)) (.bool false) (.slice none 0 0) 64
    obtain ⟨q0, q1, q2, f0, f1, f2, _⟩ := bR
    have CR := Lib.hid cR
    have HC := Lib.hid hC0
    clear hB0 HA HBx HR HB cR hC0
    go_enter Try.func62, Try.ntmps62
    go_wp2
    refine bodyPost_ret (res_place rfl _ (w.heap.size + 2) rfl CR.out.c0 CR.out.c1 CR.out.c2) rfl ?_
    exact ⟨none, 0, rfl, U64s.nil _ _, HC.out⟩
  · obtain ⟨rfl, rfl, rfl⟩ : e = 0 ∧ r = false ∧ m = [] := by
      have ez : z = 0 := by
        rw [← hz]
        unfold overE
        rw [if_pos (by omega)]
      obtain ⟨e1, n3⟩ := h3.fin (by omega)
      refine ⟨e1, ?_, ?_⟩
      · rw [n3.1, ez]; rfl
      · rw [n3.2, ez]; exact limbs_eq_nil.2 rfl
    clear hz ex ey h1 h3 hu hv hl hl2 hy0
    generalize l.length = L1 at *
    simp only [List.length_nil] at *
    obtain ⟨bA, bB, bR, hB0⟩ := boxS w (.int .i64 b) (.bool s) (.slice A L1 c) (.int .i64 (-1)) (.bool false) (.slice B 0 f) (.int .i64 0) (.bool false) (.slice none 0 0) 64
    have HA := Lib.hid bA
    have HBx := Lib.hid bB
    have HR := Lib.hid bR
    have HB := Lib.hid hB0
    obtain ⟨a0, a1, a2, _, _, _, _⟩ := bA
    obtain ⟨b0, b1, b2, _, _, _, _⟩ := bB
    obtain ⟨_, _, cR, hC0⟩ := boxS w (.int .i64 b) (.bool s) (.slice A L1 c) (.int .i64 (-1)) (.bool false) (.slice B 0 f) (.int .i64 (0)) (.bool false) (.slice none 0 0) 64
    obtain ⟨q0, q1, q2, f0, f1, f2, _⟩ := bR
    have CR := Lib.hid cR
    have HC := Lib.hid hC0
    clear hB0 HA HBx HR HB cR hC0
    go_enter Try.func62, Try.ntmps62
    go_wp2
    refine bodyPost_ret (res_place rfl _ (w.heap.size + 2) rfl CR.out.c0 CR.out.c1 CR.out.c2) rfl ?_
    exact ⟨none, 0, rfl, U64s.nil _ _, HC.out⟩

end Go.Proofs.Ytennphechbngcaa

namespace Go.Proofs.Ytennphechbngcaa
open Go.RowKit
set_option linter.unusedVariables false
set_option linter.unusedSimpArgs false


set_option maxRecDepth 100000 in
set_option maxHeartbeats 4000000 in
theorem icrossed_over {w : World} {Z1 Z2 Z3 Z4 : Zone} {n0 s0 n1 s1 m0 t0 m1 t1 : Bool} {l0 l1 k0 k1 : List Nat} {A B C D : Option Addr} {a b c d : Nat}
    (u1 : U64s w Z1 A a l0) (u2 : U64s w Z2 B b l1) (u3 : U64s w Z3 C c k0) (u4 : U64s w Z4 D d k1) (h1 : okA n0 s0 l0 n1 s1 l1 = true) (h2 : okA m0 t0 k0 m1 t1 k1 = true)
    (q1 : l0.length ≤ 60) (q2 : l1.length ≤ 60) (q3 : k0.length ≤ 60) (q4 : k1.length ≤ 60) (hq : loV m0 t0 k0 ≠ 0 ∧ hiV m1 t1 k1 ≠ 0)
    {z0 z1 : Int} {rn0 rs0 rn1 rs1 : Bool} {rl0 rl1 : List Nat} (hz0 : z0 = divLo (loV n0 s0 l0) (hiV n1 s1 l1) (loV m0 t0 k0) (hiV m1 t1 k1)) (hz1 : z1 = divHi (loV n0 s0 l0) (hiV n1 s1 l1) (loV m0 t0 k0) (hiV m1 t1 k1)) (gm : z0 < bigZ) (gM : -bigZ < z1) (e0 : EndL z0 rn0 rs0 rl0) (e1 : EndH z1 rn1 rs1 rl1) :
    Calls Try.prog 59 #[.agg #[.bool n0, .bool s0, .slice A l0.length a, .bool n1, .bool s1, .slice B l1.length b], .agg #[.bool m0, .bool t0, .slice C k0.length c, .bool m1, .bool t1, .slice D k1.length d], .func (.func 62) #[] #[]] w fun e w' => ∃ rA ra rB rb, e = .returned (.agg #[.bool rn0, .bool rs0, .slice rA rl0.length ra, .bool rn1, .bool rs1, .slice rB rl1.length rb]) ∧ U64s w' (new w.heap.size) rA ra rl0 ∧ U64s w' (new w.heap.size) rB rb rl1 ∧ Below w.heap.size w w' := by
  obtain ⟨bA, bB, bR, hB0⟩ := boxX w (.bool n0) (.bool s0) (.slice A l0.length a) (.bool n1) (.bool s1) (.slice B l1.length b) (.bool m0) (.bool t0) (.slice C k0.length c) (.bool m1) (.bool t1) (.slice D k1.length d) (.bool false) (.bool false) (.slice none 0 0) (.bool false) (.bool false) (.slice none 0 0) 29
  obtain ⟨ea1, ea2⟩ := okA_ends h1
  obtain ⟨eb1, eb2⟩ := okA_ends h2
  obtain ⟨x1, xs1, xl1, xA1, xc1, P1⟩ := Plc.ex (-1) n0 s0 l0 A a
  obtain ⟨x2, xs2, xl2, xA2, xc2, P2⟩ := Plc.ex 1 n1 s1 l1 B b
  obtain ⟨x3, xs3, xl3, xA3, xc3, P3⟩ := Plc.ex (-1) m0 t0 k0 C c
  obtain ⟨x4, xs4, xl4, xA4, xc4, P4⟩ := Plc.ex 1 m1 t1 k1 D d
  have p1 := P1.lo ea1 u1.small (by omega)
  have p2 := P2.hi ea2 u2.small (by omega)
  have p3 := P3.lo eb1 u3.small (by omega)
  have p4 := P4.hi eb2 u4.small (by omega)
  have r1 := P1.len
  have r2 := P2.len
  have r3 := P3.len
  have r4 := P4.len
  have v1 := P1.u64s u1
  have v2 := P2.u64s u2
  have v3 := P3.u64s u3
  have v4 := P4.u64s u4
  have i1 := lo_range (n := n0) (s := s0) u1.small (by omega)
  have i2 := hi_range (n := n1) (s := s1) u2.small (by omega)
  have i3 := lo_range (n := m0) (s := t0) u3.small (by omega)
  have i4 := hi_range (n := m1) (s := t1) u4.small (by omega)
  have L1 := Lib.hid (fun (W : World) => ilow_p (w := W) (v3 := .bool n1) (v4 := .bool s1) (v5 := .slice B l1.length b) P1)
  have L2 := Lib.hid (fun (W : World) => ihigh_p (w := W) (v3 := .bool n0) (v4 := .bool s0) (v5 := .slice A l0.length a) P2)
  have L3 := Lib.hid (fun (W : World) => ilow_p (w := W) (v3 := .bool m1) (v4 := .bool t1) (v5 := .slice D k1.length d) P3)
  have L4 := Lib.hid (fun (W : World) => ihigh_p (w := W) (v3 := .bool m0) (v4 := .bool t0) (v5 := .slice C k0.length c) P4)
  generalize loV n0 s0 l0 = X1 at *
  generalize hiV n1 s1 l1 = X2 at *
  generalize loV m0 t0 k0 = X3 at *
  generalize hiV m1 t1 k1 = X4 at *
  obtain ⟨Y1, hY1⟩ : ∃ Y, overE bigZ X1 X3 = Y := ⟨_, rfl⟩
  have xx1 : Ext bigZ (wN 60) Y1 := by rw [← hY1]; exact ext_over (p1.ext (by omega))
  obtain ⟨y1, ys1, yl1, py1⟩ : ∃ b s l, Pl Y1 b s l := ⟨_, _, _, Pl.all (xx1.range (by omega))⟩
  have yn1 := py1.len_of xx1
  have T1 : Hid (∀ W, Below w.heap.size w W → Calls Try.prog 62 #[.agg #[.int .i64 x1, .bool xs1, .slice xA1 xl1.length xc1], .agg #[.int .i64 x3, .bool xs3, .slice xA3 xl3.length xc3]] W fun e' w' => ∃ A' c', e' = .returned (.agg #[.int .i64 y1, .bool ys1, .slice A' yl1.length c']) ∧ U64s w' (new W.heap.size) A' c' yl1 ∧ Below W.heap.size W w') := fun W g => iover_p p1 p3 py1 hY1 hq.1 (v1.below g) (v3.below g) (by omega) (by omega)
  obtain ⟨Y2, hY2⟩ : ∃ Y, overE bigZ X1 X4 = Y := ⟨_, rfl⟩
  have xx2 : Ext bigZ (wN 60) Y2 := by rw [← hY2]; exact ext_over (p1.ext (by omega))
  obtain ⟨y2, ys2, yl2, py2⟩ : ∃ b s l, Pl Y2 b s l := ⟨_, _, _, Pl.all (xx2.range (by omega))⟩
  have yn2 := py2.len_of xx2
  have T2 : Hid (∀ W, Below w.heap.size w W → Calls Try.prog 62 #[.agg #[.int .i64 x1, .bool xs1, .slice xA1 xl1.length xc1], .agg #[.int .i64 x4, .bool xs4, .slice xA4 xl4.length xc4]] W fun e' w' => ∃ A' c', e' = .returned (.agg #[.int .i64 y2, .bool ys2, .slice A' yl2.length c']) ∧ U64s w' (new W.heap.size) A' c' yl2 ∧ Below W.heap.size W w') := fun W g => iover_p p1 p4 py2 hY2 hq.2 (v1.below g) (v4.below g) (by omega) (by omega)
  obtain ⟨Y3, hY3⟩ : ∃ Y, overE bigZ X2 X3 = Y := ⟨_, rfl⟩
  have xx3 : Ext bigZ (wN 60) Y3 := by rw [← hY3]; exact ext_over (p2.ext (by omega))
  obtain ⟨y3, ys3, yl3, py3⟩ : ∃ b s l, Pl Y3 b s l := ⟨_, _, _, Pl.all (xx3.range (by omega))⟩
  have yn3 := py3.len_of xx3
  have T3 : Hid (∀ W, Below w.heap.size w W → Calls Try.prog 62 #[.agg #[.int .i64 x2, .bool xs2, .slice xA2 xl2.length xc2], .agg #[.int .i64 x3, .bool xs3, .slice xA3 xl3.length xc3]] W fun e' w' => ∃ A' c', e' = .returned (.agg #[.int .i64 y3, .bool ys3, .slice A' yl3.length c']) ∧ U64s w' (new W.heap.size) A' c' yl3 ∧ Below W.heap.size W w') := fun W g => iover_p p2 p3 py3 hY3 hq.1 (v2.below g) (v3.below g) (by omega) (by omega)
  obtain ⟨Y4, hY4⟩ : ∃ Y, overE bigZ X2 X4 = Y := ⟨_, rfl⟩
  have xx4 : Ext bigZ (wN 60) Y4 := by rw [← hY4]; exact ext_over (p2.ext (by omega))
  obtain ⟨y4, ys4, yl4, py4⟩ : ∃ b s l, Pl Y4 b s l := ⟨_, _, _, Pl.all (xx4.range (by omega))⟩
  have yn4 := py4.len_of xx4
  have T4 : Hid (∀ W, Below w.heap.size w W → Calls Try.prog 62 #[.agg #[.int .i64 x2, .bool xs2, .slice xA2 xl2.length xc2], .agg #[.int .i64 x4, .bool xs4, .slice xA4 xl4.length xc4]] W fun e' w' => ∃ A' c', e' = .returned (.agg #[.int .i64 y4, .bool ys4, .slice A' yl4.length c']) ∧ U64s w' (new W.heap.size) A' c' yl4 ∧ Below W.heap.size W w') := fun W g => iover_p p2 p4 py4 hY4 hq.2 (v2.below g) (v4.below g) (by omega) (by omega)
  have COR : Hid (∀ (W : World) (ty : TypeId) (Z5 Z6 Z7 Z8 : Zone) (D1 D2 D3 D4 : Option Addr) (d1 d2 d3 d4 : Nat), U64s W Z5 D1 d1 yl1 → U64s W Z6 D2 d2 yl2 → U64s W Z7 D3 d3 yl3 → U64s W Z8 D4 d4 yl4 → Calls Try.prog 48 #[.slice (some ⟨W.heap.size, 0, none⟩) 4 4] (W.alloc (.cells #[.int .i64 y1, .bool ys1, .slice D1 yl1.length d1, .int .i64 y2, .bool ys2, .slice D2 yl2.length d2, .int .i64 y3, .bool ys3, .slice D3 yl3.length d3, .int .i64 y4, .bool ys4, .slice D4 yl4.length d4] ty)) fun e w' => ∃ A1 c1 A2 c2, e = .returned (.agg #[.bool rn0, .bool rs0, .slice A1 rl0.length c1, .bool rn1, .bool rs1, .slice A2 rl1.length c2]) ∧ U64s w' (new W.heap.size) A1 c1 rl0 ∧ U64s w' (new W.heap.size) A2 c2 rl1 ∧ Below W.heap.size W w') := fun W ty Z5 Z6 Z7 Z8 D1 D2 D3 D4 d1 d2 d3 d4 g1 g2 g3 g4 => by
    have h9 := icorners4 (W := W) (ty := ty) (p := ⟨_, y1, ys1, yl1⟩) (q := ⟨_, y2, ys2, yl2⟩) (r := ⟨_, y3, ys3, yl3⟩) (s := ⟨_, y4, ys4, yl4⟩) py1 py2 py3 py4 g1 g2 g3 g4 (by dsimp only; omega) (by dsimp only; omega) (by dsimp only; omega) (by dsimp only; omega) (m := z0) (M := z1) (by dsimp only; rw [hz0, ← hY1, ← hY2, ← hY3, ← hY4]; rfl) (by dsimp only; rw [hz1, ← hY1, ← hY2, ← hY3, ← hY4]; rfl) gm gM e0 e1
    exact h9
  have hs := boxT_of bA bB
  replace hs := boxT_keep hs (Below.refl _ _).drew
  have Hc := Lib.hid hB0.drew
  have bR' : Box6 _ (w.heap.size + 1 + 1) _ _ _ _ _ _ := bR
  have HR := Lib.hid (bR'.below (Below.refl _ _).drew)
  clear hq bA bB bR bR' hB0 hz0 hz1 e0 e1 gm gM
  clear hY1 xx1 py1 yn1 hY2 xx2 py2 yn2 hY3 xx3 py3 yn3 hY4 xx4 py4 yn4
  clear u1 u2 u3 u4 ea1 ea2 eb1 eb2 P1 P2 P3 P4 p1 p2 p3 p4 r1 r2 r3 r4 v1 v2 v3 v4 i1 i2 i3 i4 q1 q2 q3 q4 h1 h2
  go_enter Try.func59, Try.ntmps59
  go_wp2
  generalize hgR : w.heap.size + 1 + 1 = gR at *
  have n1 : gR ≠ w.heap.size := by omega
  have n2 : gR ≠ w.heap.size + 1 := by omega
  have n3 : w.heap.size ≤ gR := by omega
  have N1 := Lib.hid n1
  have N2 := Lib.hid n2
  have N3 := Lib.hid n3
  clear hgR n1 n2 n3
  first | go_region_held3 (fun w' => w'.cell? ⟨w.heap.size, 0, none⟩ = some (.bool n0) ∧ w'.cell? ⟨w.heap.size, 1, none⟩ = some (.bool s0) ∧ w'.cell? ⟨w.heap.size, 2, none⟩ = some (.slice A l0.length a) ∧ w'.cell? ⟨w.heap.size, 3, none⟩ = some (.bool n1) ∧ w'.cell? ⟨w.heap.size, 4, none⟩ = some (.bool s1) ∧ w'.cell? ⟨w.heap.size, 5, none⟩ = some (.slice B l1.length b) ∧ w'.cell? ⟨w.heap.size + 1, 0, none⟩ = some (.bool m0) ∧ w'.cell? ⟨w.heap.size + 1, 1, none⟩ = some (.bool t0) ∧ w'.cell? ⟨w.heap.size + 1, 2, none⟩ = some (.slice C k0.length c) ∧ w'.cell? ⟨w.heap.size + 1, 3, none⟩ = some (.bool m1) ∧ w'.cell? ⟨w.heap.size + 1, 4, none⟩ = some (.bool t1) ∧ w'.cell? ⟨w.heap.size + 1, 5, none⟩ = some (.slice D k1.length d))
    (first
      | with_reducible exact hs
      | with_reducible exact boxT_st6 N1.out N2.out hs
      | exact boxT_keep hs ((Below.refl _ _).alloc (Nat.le_refl _) _))
    (first
      | (go_at_call 37; (first | (with_reducible refine (L1.out _).mono ?_) | (with_reducible refine (L3.out _).mono ?_)); rintro e w2 ⟨rfl, hc2⟩; (try replace vv1 := vv1.below hc2); (try replace vv2 := vv2.below hc2); (try replace vv3 := vv3.below hc2); replace hs := boxT_keep hs hc2; replace HR := Lib.hid (HR.out.below hc2); replace Hc := Lib.hid (from_ Hc.out hc2))
      | (go_at_call 38; (first | (with_reducible refine (L2.out _).mono ?_) | (with_reducible refine (L4.out _).mono ?_)); rintro e w2 ⟨rfl, hc2⟩; (try replace vv1 := vv1.below hc2); (try replace vv2 := vv2.below hc2); (try replace vv3 := vv3.below hc2); replace hs := boxT_keep hs hc2; replace HR := Lib.hid (HR.out.below hc2); replace Hc := Lib.hid (from_ Hc.out hc2))
      | (go_at_call 62; with_reducible refine (T1.out _ Hc.out).mono ?_; rintro e w2 ⟨D1, d1, rfl, vv1, hc2⟩; replace hs := boxT_keep hs hc2; replace HR := Lib.hid (HR.out.below hc2); replace Hc := Lib.hid (from_ Hc.out hc2))
      | (go_at_call 62; with_reducible refine (T2.out _ Hc.out).mono ?_; rintro e w2 ⟨D2, d2, rfl, vv2, hc2⟩; (try replace vv1 := vv1.below hc2); replace hs := boxT_keep hs hc2; replace HR := Lib.hid (HR.out.below hc2); replace Hc := Lib.hid (from_ Hc.out hc2))
      | (go_at_call 62; with_reducible refine (T3.out _ Hc.out).mono ?_; rintro e w2 ⟨D3, d3, rfl, vv3, hc2⟩; (try replace vv1 := vv1.below hc2); (try replace vv2 := vv2.below hc2); replace hs := boxT_keep hs hc2; replace HR := Lib.hid (HR.out.below hc2); replace Hc := Lib.hid (from_ Hc.out hc2))
      | (go_at_call 62; with_reducible refine (T4.out _ Hc.out).mono ?_; rintro e w2 ⟨D4, d4, rfl, vv4, hc2⟩; (try replace vv1 := vv1.below hc2); (try replace vv2 := vv2.below hc2); (try replace vv3 := vv3.below hc2); replace hs := boxT_keep hs hc2; replace HR := Lib.hid (HR.out.below hc2); replace Hc := Lib.hid (from_ Hc.out hc2))
      | (go_at_call 48; with_reducible refine (COR.out _ _ _ _ _ _ _ _ _ _ _ _ _ _ vv1 vv2 vv3 vv4).mono ?_; rintro e w3 ⟨A1, c1, A2, c2, rfl, o1, o2, hc2⟩; replace hs := boxT_keep hs hc2; have zl := HR.out.lt; replace HR := Lib.hid (HR.out.below hc2); have Hp := Hc; replace Hc := Lib.hid (from_ Hc.out hc2); obtain ⟨g0, g1, g2, g3, g4, g5, f0, f1, f2, f3, f4, f5, _⟩ := id HR.out)) | fail
  all_goals
    have HP := Lib.hid (HR.out.put Hc.out N3.out (.bool rn0) (.bool rs0) (.slice A1 rl0.length c1) (.bool rn1) (.bool rs1) (.slice A2 rl1.length c2))
    have U1 := Lib.hid ((o1.set6 (g := gR) (fun (h : _ ≤ gR) => by omega) (.bool rn0) (.bool rs0) (.slice A1 rl0.length c1) (.bool rn1) (.bool rs1) (.slice A2 rl1.length c2)).mono (new_le Hp.out.size))
    have U2 := Lib.hid ((o2.set6 (g := gR) (fun (h : _ ≤ gR) => by omega) (.bool rn0) (.bool rs0) (.slice A1 rl0.length c1) (.bool rn1) (.bool rs1) (.slice A2 rl1.length c2)).mono (new_le Hp.out.size))
    clear o1 o2
    go_wp2
    refine bodyPost_ret (res_itv rfl _ gR rfl HP.out.box) rfl ?_
    exact ⟨_, _, _, _, rfl, U1.out, U2.out, HP.out.bel⟩

end Go.Proofs.Ytennphechbngcaa

namespace Go.Proofs.Ytennphechbngcaa
open Go.RowKit
set_option linter.unusedVariables false
set_option linter.unusedSimpArgs false

/-- The row's cells are these intervals. -/
def IvsO (w : World) (B0 : Nat) (v : Value) (xs : List Value) (ps : List Iv) : Prop :=
  ∀ j (hj : j < ps.length), ∃ A a B b, (xs[j * 6]? = some (.bool ps[j].n0) ∧ xs[j * 6 + 1]? = some (.bool ps[j].s0) ∧ xs[j * 6 + 2]? = some (.slice A ps[j].l0.length a) ∧ xs[j * 6 + 3]? = some (.bool ps[j].n1) ∧ xs[j * 6 + 4]? = some (.bool ps[j].s1) ∧ xs[j * 6 + 5]? = some (.slice B ps[j].l1.length b)) ∧ U64s w (newX B0 v) A a ps[j].l0 ∧ U64s w (newX B0 v) B b ps[j].l1
theorem IvsO.nil (w : World) (B0 : Nat) (v : Value) (xs : List Value) : IvsO w B0 v xs [] := fun j hj => absurd hj (by simp)
theorem IvsO.below {w w' : World} {B0 : Nat} {v : Value} {xs : List Value} {ps : List Iv} (h : IvsO w B0 v xs ps) (hb : Below w.heap.size w w') : IvsO w' B0 v xs ps := fun j hj => by
  obtain ⟨A, a, B, b, hc, h0, h1⟩ := h j hj
  exact ⟨A, a, B, b, hc, h0.below hb, h1.below hb⟩
theorem IvsO.snoc {w w' : World} {B0 : Nat} {v v' : Value} {xs : List Value} {ps : List Iv} {p : Iv} {A B : Option Addr} {a b : Nat} (h : IvsO w B0 v xs ps) (hl : xs.length = ps.length * 6) (hg : w.grownBy w' v.ownBlock) (hf : Fresh w v v') (hu : U64s w (newX B0 v) A a p.l0) (hv : U64s w (newX B0 v) B b p.l1) :
    IvsO w' B0 v' (xs ++ [.bool p.n0, .bool p.s0, .slice A p.l0.length a, .bool p.n1, .bool p.s1, .slice B p.l1.length b]) (ps ++ [p]) := fun j hj => by
  rw [List.length_append, List.length_singleton] at hj
  by_cases hj2 : j < ps.length
  · obtain ⟨A', a', B', b', ⟨h0, h1, h2, h3, h4, h5⟩, u0, u1⟩ := h j hj2
    refine ⟨A', a', B', b', ?_, ?_, ?_⟩
    · rw [List.getElem_append_left hj2, List.getElem?_append_left (by omega), List.getElem?_append_left (by omega), List.getElem?_append_left (by omega), List.getElem?_append_left (by omega), List.getElem?_append_left (by omega), List.getElem?_append_left (by omega)]
      exact ⟨h0, h1, h2, h3, h4, h5⟩
    · rw [List.getElem_append_left hj2]; exact u0.grow hg hf
    · rw [List.getElem_append_left hj2]; exact u1.grow hg hf
  · obtain rfl : j = ps.length := by omega
    have e : (ps ++ [p])[ps.length]'(by simp) = p := by rw [List.getElem_append_right (by omega)]; simp
    refine ⟨A, a, B, b, ?_, ?_, ?_⟩
    · rw [e, List.getElem?_append_right (by omega), List.getElem?_append_right (by omega), List.getElem?_append_right (by omega), List.getElem?_append_right (by omega), List.getElem?_append_right (by omega), List.getElem?_append_right (by omega), hl, Nat.sub_self, show ps.length * 6 + 1 - ps.length * 6 = 1 by omega, show ps.length * 6 + 2 - ps.length * 6 = 2 by omega, show ps.length * 6 + 3 - ps.length * 6 = 3 by omega, show ps.length * 6 + 4 - ps.length * 6 = 4 by omega, show ps.length * 6 + 5 - ps.length * 6 = 5 by omega]
      exact ⟨rfl, rfl, rfl, rfl, rfl, rfl⟩
    · rw [e]; exact hu.grow hg hf
    · rw [e]; exact hv.grow hg hf
theorem IvsO.fin {w : World} {B B0 : Nat} {v : Value} {xs : List Value} {ps : List Iv} {e : TypeId} (h : IvsO w B0 v xs ps) (hown : w.ownsRow B e 6 v ps.length xs) : ∃ A c, v = .slice A ps.length c ∧ IvsAt w (new B0) A c ps ∧ ∀ b o, A = some ⟨b, o, none⟩ → B ≤ b := by
  have hcase := hown.2
  rcases hcase with ⟨e1, h0⟩ | ⟨g, cap, cur, e1, hB, hh, hcap, hm, _⟩
  · have hq : ps = [] := List.eq_nil_of_length_eq_zero h0
    subst hq
    exact ⟨none, 0, e1, IvsAt.nil _ _, fun b o h => by cases h⟩
  · subst e1
    refine ⟨some ⟨g, 0, none⟩, cap, rfl, ⟨hcap, by simpa [maxLen] using hm, fun h0 => ⟨g, 0, rfl, (hown.lt g rfl).2, fun j hj => ?_⟩⟩, fun b o h => by injection h with h; injection h with h1 h2; omega⟩
    obtain ⟨A, a, B, b, ⟨c0, c1, c2, c3, c4, c5⟩, u0, u1⟩ := h j hj
    refine ⟨A, a, B, b, ⟨?_, ?_, ?_, ?_, ?_, ?_⟩, u0.mono (newX_le _ _), u1.mono (newX_le _ _)⟩
    · rw [Nat.zero_add, hown.cellAt (j * 6) (by omega)]; exact c0
    · rw [Nat.zero_add, hown.cellAt (j * 6 + 1) (by omega)]; exact c1
    · rw [Nat.zero_add, hown.cellAt (j * 6 + 2) (by omega)]; exact c2
    · rw [Nat.zero_add, hown.cellAt (j * 6 + 3) (by omega)]; exact c3
    · rw [Nat.zero_add, hown.cellAt (j * 6 + 4) (by omega)]; exact c4
    · rw [Nat.zero_add, hown.cellAt (j * 6 + 5) (by omega)]; exact c5

/-- The two sides, and the parts of the first k of them. -/
def SD (k : Nat) : Int × Int := if k = 0 then (-bigZ, -1) else (1, bigZ)
def partK (P : Int × Int) (k : Nat) : List (Int × Int) := (if 1 ≤ k ∧ P.1 ≤ -1 then [(P.1, min P.2 (-1))] else []) ++ (if 2 ≤ k ∧ 1 ≤ P.2 then [(max P.1 1, P.2)] else [])
theorem partK_zero (P : Int × Int) : partK P 0 = [] := by simp [partK]
theorem partK_two (P : Int × Int) : partK P 2 = partsP P := by simp [partK, partsP]
theorem big_one : (1 : Int) < bigZ := by
  have := wN_le (show 1 ≤ 64 by omega)
  have e : wN 1 = 18446744073709551616 := rfl
  omega
theorem partK_step {N k : Nat} {P : Int × Int} (h : IvN N P.1 P.2) (hN : N ≤ 60) (hk : k < 2) {g : Bool} (hg : decide (max P.1 (SD k).1 ≤ min P.2 (SD k).2) = g) : partK P (k + 1) = if g = true then partK P k ++ [(max P.1 (SD k).1, min P.2 (SD k).2)] else partK P k := by
  obtain ⟨a1, a2, a3, a4, a5⟩ := h
  have h3 := big_one
  have r1 := a1.range (by omega)
  have r2 := a2.range (by omega)
  obtain rfl | rfl : k = 0 ∨ k = 1 := by omega
  · unfold SD partK at *
    simp only [if_true] at hg ⊢
    have e : max P.1 (-bigZ) = P.1 := by omega
    rw [e] at hg ⊢
    subst hg
    by_cases h1 : P.1 ≤ -1
    · rw [if_pos ⟨by omega, h1⟩, decide_eq_true (by omega)]; simp
    · rw [if_neg (by omega), decide_eq_false (by omega)]; simp
  · unfold SD partK at *
    simp only [show ¬ (1 = 0) by omega, if_false] at hg ⊢
    have e : min P.2 bigZ = P.2 := by omega
    rw [e] at hg ⊢
    subst hg
    by_cases h2 : 1 ≤ P.2
    · rw [if_pos (show 2 ≤ 1 + 1 ∧ 1 ≤ P.2 by omega), decide_eq_true (by omega)]; simp
    · rw [if_neg (show ¬ (2 ≤ 1 + 1 ∧ 1 ≤ P.2) by omega), decide_eq_false (by omega)]; simp
theorem ivn_side {N : Nat} (hN : 1 ≤ N) (k : Nat) : IvN N (SD k).1 (SD k).2 := by
  have h3 := big_one
  have h4 : (1 : Int) < wN N := by
    have := wN_mono hN
    have e : wN 1 = 18446744073709551616 := rfl
    omega
  unfold SD
  split
  · exact ⟨.inr (.inl rfl), .inr (.inr (by omega)), by dsimp only; omega, by dsimp only; omega, by dsimp only; omega⟩
  · exact ⟨.inr (.inr (by omega)), .inl rfl, by dsimp only; omega, by dsimp only; omega, by dsimp only; omega⟩
theorem side_w (k : Nat) : IvW (SD k) (ivOf (SD k).1 (SD k).2) := IvW.mk _
theorem side_lo : (ivOf (SD 0).1 (SD 0).2).n0 = true ∧ (ivOf (SD 0).1 (SD 0).2).s0 = false ∧ (ivOf (SD 0).1 (SD 0).2).l0 = [] ∧ (ivOf (SD 0).1 (SD 0).2).n1 = false ∧ Nm (-1) (ivOf (SD 0).1 (SD 0).2).s1 (ivOf (SD 0).1 (SD 0).2).l1 := by
  have h3 := big_one
  rw [show SD 0 = (-bigZ, -1) from rfl]
  refine ⟨?_, ?_, ?_, ?_, ?_⟩
  · exact decide_eq_true (p := -bigZ = -bigZ) rfl
  · exact decide_eq_false (p := -bigZ < -bigZ ∧ -bigZ < 0) (by omega)
  · exact if_neg (c := -bigZ < -bigZ ∧ -bigZ < bigZ) (t := limbs (-bigZ).natAbs) (by omega)
  · exact decide_eq_false (p := -1 = bigZ) (by omega)
  · exact nm_e (n := -1) ⟨by omega, by omega⟩
theorem side_hi : (ivOf (SD 1).1 (SD 1).2).n0 = false ∧ Nm 1 (ivOf (SD 1).1 (SD 1).2).s0 (ivOf (SD 1).1 (SD 1).2).l0 ∧ (ivOf (SD 1).1 (SD 1).2).n1 = true ∧ (ivOf (SD 1).1 (SD 1).2).s1 = false ∧ (ivOf (SD 1).1 (SD 1).2).l1 = [] := by
  have h3 := big_one
  rw [show SD 1 = (1, bigZ) from rfl]
  refine ⟨?_, ?_, ?_, ?_, ?_⟩
  · exact decide_eq_false (p := 1 = -bigZ) (by omega)
  · exact nm_e (n := 1) ⟨by omega, by omega⟩
  · exact decide_eq_true (p := bigZ = bigZ) rfl
  · exact decide_eq_false (p := -bigZ < bigZ ∧ bigZ < 0) (by omega)
  · exact if_neg (c := -bigZ < bigZ ∧ bigZ < bigZ) (t := limbs bigZ.natAbs) (by omega)
theorem six_news {W : World} {a0 a1 a2 a3 a4 a5 : Value} {t : TypeId} : ∀ j u, [a0, a1, a2, a3, a4, a5][j]? = some u → (W.alloc (.cells #[a0, a1, a2, a3, a4, a5] t)).cell? ⟨W.heap.size, j, none⟩ = some u := by
  intro j u h
  have hj : j < 6 := by
    have h2 := (List.getElem?_eq_some_iff.1 h).1
    have h3 : ([a0, a1, a2, a3, a4, a5] : List Value).length = 6 := rfl
    omega
  refine cell_newest rfl ?_
  rw [← h]
  exact List.getElem?_toArray

theorem imeet_w {w : World} {Z1 Z2 Z3 Z4 : Zone} {p q r : Iv} {P Q : IvP} {N M : Nat} {A B C D : Option Addr} {a b c d : Nat} (hp : IvW P p) (gp : IvN N P.1 P.2) (hN : N ≤ 60) (hq : IvW Q q) (gq : IvN M Q.1 Q.2) (hM : M ≤ 60) (hr : IvW (max P.1 Q.1, min P.2 Q.2) r) {g : Bool} (hg : decide (max P.1 Q.1 ≤ min P.2 Q.2) = g) (u1 : U64s w Z1 A a p.l0) (u2 : U64s w Z2 B b p.l1) (u3 : U64s w Z3 C c q.l0) (u4 : U64s w Z4 D d q.l1) :
    Calls Try.prog 39 #[.agg #[.bool p.n0, .bool p.s0, .slice A p.l0.length a, .bool p.n1, .bool p.s1, .slice B p.l1.length b], .agg #[.bool q.n0, .bool q.s0, .slice C q.l0.length c, .bool q.n1, .bool q.s1, .slice D q.l1.length d]] w fun e w' => (g = true → ∃ rA ra rB rb, e = .returned (.tuple #[.agg #[.bool r.n0, .bool r.s0, .slice rA r.l0.length ra, .bool r.n1, .bool r.s1, .slice rB r.l1.length rb], .bool true]) ∧ U64s w' (new w.heap.size) rA ra r.l0 ∧ U64s w' (new w.heap.size) rB rb r.l1) ∧ (g = false → e = .returned (.tuple #[.agg #[.bool false, .bool false, .slice none 0 0, .bool false, .bool false, .slice none 0 0], .bool false])) ∧ Below w.heap.size w w' := by
  have kp := hp.k gp (by omega)
  have kq := hq.k gq (by omega)
  exact imeet_p u1 u2 u3 u4 kp.ok kq.ok (by have := kp.q0; omega) (by have := kp.q1; omega) (by have := kq.q0; omega) (by have := kq.q1; omega) (by rw [kp.lo, kq.lo]) (by rw [kp.hi, kq.hi]) hr.1 hr.2 hg

set_option maxRecDepth 100000 in
set_option maxHeartbeats 8000000 in
theorem iparted_w {w : World} {Z1 Z2 : Zone} {p : Iv} {P : IvP} {N : Nat} {A B : Option Addr} {a b : Nat} (hp : IvW P p) (gp : IvN N P.1 P.2) (hN : N ≤ 60) (u0 : U64s w Z1 A a p.l0) (u1 : U64s w Z2 B b p.l1) :
    Calls Try.prog 61 #[.agg #[.bool p.n0, .bool p.s0, .slice A p.l0.length a, .bool p.n1, .bool p.s1, .slice B p.l1.length b]] w fun e w' => ∃ Av cv, e = .returned (.slice Av (partsP P).length cv) ∧ IvsAt w' (new w.heap.size) Av cv (fmOf (partsP P)) ∧ (∀ b o, Av = some ⟨b, o, none⟩ → w.heap.size ≤ b) ∧ Below w.heap.size w w' := by
  have hB0 : Below w.heap.size w (w.alloc (.cells #[.bool p.n0, .bool p.s0, .slice A p.l0.length a, .bool p.n1, .bool p.s1, .slice B p.l1.length b] 29)) := (Below.refl _ _).alloc (Nat.le_refl _) _
  have HA := Lib.hid (Box6.new w (.bool p.n0) (.bool p.s0) (.slice A p.l0.length a) (.bool p.n1) (.bool p.s1) (.slice B p.l1.length b) 29)
  obtain ⟨sm, lm, nm, sw0⟩ : ∃ sm lm, Nm (-1) sm lm ∧ IvW (SD 0) ⟨true, false, [], false, sm, lm⟩ := by
    obtain ⟨h0, h1, h2, h3, h4⟩ := side_lo
    refine ⟨_, _, h4, ?_⟩
    have h := side_w 0
    unfold IvW at h ⊢
    rwa [h0, h1, h2, h3] at h
  obtain ⟨s1, l1, n1, sw1⟩ : ∃ s1 l1, Nm 1 s1 l1 ∧ IvW (SD 1) ⟨false, s1, l1, true, false, []⟩ := by
    obtain ⟨h0, h1, h2, h3, h4⟩ := side_hi
    refine ⟨_, _, h1, ?_⟩
    have h := side_w 1
    unfold IvW at h ⊢
    rwa [h0, h2, h3, h4] at h
  have q1 : l1.length ≤ 1 := by rw [n1.2]; exact len_limbs_le (by decide)
  have qm : lm.length ≤ 1 := by rw [nm.2]; exact len_limbs_le (by decide)
  have Hp := Lib.hid hp
  have HG := Lib.hid gp
  have SW0 := Lib.hid sw0
  have SW1 := Lib.hid sw1
  have OF := Lib.hid (fun (W : World) => wof_p (w := W) n1 (by omega))
  have NG := Lib.hid (fun (W : World) (C : Option Addr) (c : Nat) (Z : Zone) (u : U64s W Z C c l1) => wneg_n n1 nm rfl (by omega) u)
  have AT1 := Lib.hid (fun (W : World) (C : Option Addr) (c : Nat) (Z : Zone) (u : U64s W Z C c lm) => iat_p (s := sm) u (by omega))
  have AT2 := Lib.hid (fun (W : World) (C : Option Addr) (c : Nat) (Z : Zone) (u : U64s W Z C c l1) => iat_p (s := s1) u (by omega))
  have HB := Lib.hid hB0
  clear hp gp sw0 sw1 n1 nm hB0
  go_enter Try.func61, Try.ntmps61
  go_wp2_with fail
  refine (OF.out _).mono ?_
  rintro e w1 ⟨C1, c1, rfl, uo, hc⟩
  go_upto_region 2 with fail
  have hax : Below w1.heap.size w1 (w1.alloc (.cells #[.bool s1, .slice C1 l1.length c1] 25)) := (Below.refl _ _).alloc (Nat.le_refl _) _
  have BO := Lib.hid (Box.new w1 (.bool s1) (.slice C1 l1.length c1) 25)
  obtain ⟨gO, hgO⟩ : ∃ gO, gO = w1.heap.size := ⟨_, rfl⟩
  rw [← hgO] at BO
  have UO := Lib.hid (uo.below hax)
  replace HA := Lib.hid ((HA.out.below hc).below hax)
  replace HB := Lib.hid (from_ (from_ HB.out hc) hax)
  clear hc hax uo OF
  generalize hW1 : w1.alloc (.cells #[.bool s1, .slice C1 l1.length c1] 25) = W1 at *
  try simp only [← hgO]
  clear hW1 hgO
  obtain ⟨x0, x1, _, _, _⟩ := id BO.out
  go_wp2_with fail
  refine (NG.out _ _ _ _ UO.out).mono ?_
  rintro e w2 ⟨D1, d1, rfl, um, hc⟩
  have hax : Below w2.heap.size w2 (w2.alloc (.cells #[.bool sm, .slice D1 lm.length d1] 25)) := (Below.refl _ _).alloc (Nat.le_refl _) _
  have BM := Lib.hid (Box.new w2 (.bool sm) (.slice D1 lm.length d1) 25)
  obtain ⟨gM, hgM⟩ : ∃ gM, gM = w2.heap.size := ⟨_, rfl⟩
  rw [← hgM] at BM
  have UM := Lib.hid (um.below hax)
  replace UO := Lib.hid ((UO.out.below hc).below hax)
  replace BO := Lib.hid ((BO.out.below hc).below hax)
  replace HA := Lib.hid ((HA.out.below hc).below hax)
  replace HB := Lib.hid (from_ (from_ HB.out hc) hax)
  clear hc hax um NG x0 x1
  generalize hW2 : w2.alloc (.cells #[.bool sm, .slice D1 lm.length d1] 25) = W2 at *
  have hs := And.intro (And.intro BM.out.c0 BM.out.c1) (And.intro BO.out.c0 BO.out.c1)
  replace hs := c4_keep hs (Below.refl _ _).drew
  have Hc := Lib.hid (Below.refl W2.heap.size W2).drew
  go_upto_region 3 with fail
  try simp only [hW2]
  try simp only [← hgM]
  clear hW2 hgM
  first | go_region_held3 (fun w' => (w'.cell? ⟨gM, 0, none⟩ = some (.bool sm) ∧ w'.cell? ⟨gM, 1, none⟩ = some (.slice D1 lm.length d1)) ∧ w'.cell? ⟨gO, 0, none⟩ = some (.bool s1) ∧ w'.cell? ⟨gO, 1, none⟩ = some (.slice C1 l1.length c1))
    (first | with_reducible exact hs | (with_reducible apply c4_al rfl; with_reducible exact hs) | (with_reducible apply c4_dr rfl; with_reducible exact hs))
    (first
      | (go_at_call 58; with_reducible refine (inone_p).mono ?_; rintro e w3 ⟨rfl, hc2⟩; (try replace vm := vm.below hc2); (try replace vo := vo.below hc2); replace hs := c4_keep hs hc2; replace Hc := Lib.hid (from_ Hc.out hc2); clear hc2)
      | (go_at_call 51; with_reducible refine (AT1.out _ _ _ _ (UM.out.below Hc.out)).mono ?_; rintro e w3 ⟨Em, em, rfl, vm, hc2⟩; (try replace vo := vo.below hc2); replace hs := c4_keep hs hc2; replace Hc := Lib.hid (from_ Hc.out hc2); clear hc2)
      | (go_at_call 51; with_reducible refine (AT2.out _ _ _ _ (UO.out.below Hc.out)).mono ?_; rintro e w3 ⟨Eo, eo, rfl, vo, hc2⟩; (try replace vm := vm.below hc2); replace hs := c4_keep hs hc2; replace Hc := Lib.hid (from_ Hc.out hc2); clear hc2)) | fail
  all_goals
    have hal := (Below.refl w3.heap.size w3).alloc (Nat.le_refl _) (.cells #[.bool true, .bool false, .slice none 0 0, .bool false, .bool sm, .slice Em lm.length em, .bool false, .bool s1, .slice Eo l1.length eo, .bool true, .bool false, .slice none 0 0] 29)
    have HSIDE : Hid (∀ k, k < 2 → ∃ (sd : Iv) (F0 : Option Addr) (f0 : Nat) (F1 : Option Addr) (f1 : Nat), ((w3.alloc (.cells #[.bool true, .bool false, .slice none 0 0, .bool false, .bool sm, .slice Em lm.length em, .bool false, .bool s1, .slice Eo l1.length eo, .bool true, .bool false, .slice none 0 0] 29)).cell? ⟨w3.heap.size, k * 6, none⟩ = some (.bool sd.n0) ∧ (w3.alloc (.cells #[.bool true, .bool false, .slice none 0 0, .bool false, .bool sm, .slice Em lm.length em, .bool false, .bool s1, .slice Eo l1.length eo, .bool true, .bool false, .slice none 0 0] 29)).cell? ⟨w3.heap.size, k * 6 + 1, none⟩ = some (.bool sd.s0) ∧ (w3.alloc (.cells #[.bool true, .bool false, .slice none 0 0, .bool false, .bool sm, .slice Em lm.length em, .bool false, .bool s1, .slice Eo l1.length eo, .bool true, .bool false, .slice none 0 0] 29)).cell? ⟨w3.heap.size, k * 6 + 2, none⟩ = some (.slice F0 sd.l0.length f0) ∧ (w3.alloc (.cells #[.bool true, .bool false, .slice none 0 0, .bool false, .bool sm, .slice Em lm.length em, .bool false, .bool s1, .slice Eo l1.length eo, .bool true, .bool false, .slice none 0 0] 29)).cell? ⟨w3.heap.size, k * 6 + 3, none⟩ = some (.bool sd.n1) ∧ (w3.alloc (.cells #[.bool true, .bool false, .slice none 0 0, .bool false, .bool sm, .slice Em lm.length em, .bool false, .bool s1, .slice Eo l1.length eo, .bool true, .bool false, .slice none 0 0] 29)).cell? ⟨w3.heap.size, k * 6 + 4, none⟩ = some (.bool sd.s1) ∧ (w3.alloc (.cells #[.bool true, .bool false, .slice none 0 0, .bool false, .bool sm, .slice Em lm.length em, .bool false, .bool s1, .slice Eo l1.length eo, .bool true, .bool false, .slice none 0 0] 29)).cell? ⟨w3.heap.size, k * 6 + 5, none⟩ = some (.slice F1 sd.l1.length f1)) ∧ U64s (w3.alloc (.cells #[.bool true, .bool false, .slice none 0 0, .bool false, .bool sm, .slice Em lm.length em, .bool false, .bool s1, .slice Eo l1.length eo, .bool true, .bool false, .slice none 0 0] 29)) old F0 f0 sd.l0 ∧ U64s (w3.alloc (.cells #[.bool true, .bool false, .slice none 0 0, .bool false, .bool sm, .slice Em lm.length em, .bool false, .bool s1, .slice Eo l1.length eo, .bool true, .bool false, .slice none 0 0] 29)) old F1 f1 sd.l1 ∧ IvW (SD k) sd) := fun k hk => by
      obtain rfl | rfl : k = 0 ∨ k = 1 := by omega
      · exact ⟨_, none, 0, Em, em, ⟨cell_newest rfl rfl, cell_newest rfl rfl, cell_newest rfl rfl, cell_newest rfl rfl, cell_newest rfl rfl, cell_newest rfl rfl⟩, U64s.nil _ _, (vm.below hal).mono (le_old _), SW0.out⟩
      · exact ⟨_, Eo, eo, none, 0, ⟨cell_newest rfl rfl, cell_newest rfl rfl, cell_newest rfl rfl, cell_newest rfl rfl, cell_newest rfl rfl, cell_newest rfl rfl⟩, (vo.below hal).mono (le_old _), U64s.nil _ _, SW1.out⟩
    obtain ⟨g3, hg3⟩ : ∃ g3, g3 = w3.heap.size := ⟨_, rfl⟩
    rw [← hg3] at HSIDE
    have HW3 := Lib.hid (from_ (from_ HB.out Hc.out) hal)
    replace HA := Lib.hid ((HA.out.below Hc.out).below hal)
    clear hs vm vo hal BO BM UO UM SW0 SW1 AT1 AT2 Hc HB
    generalize hW3 : w3.alloc (.cells #[.bool true, .bool false, .slice none 0 0, .bool false, .bool sm, .slice Em lm.length em, .bool false, .bool s1, .slice Eo l1.length eo, .bool true, .bool false, .slice none 0 0] 29) = W3 at *
    go_wp2
    try simp only [hW3]
    try simp only [← hg3]
    clear hW3 hg3
    go_loopw [2, 26] (fun v i wr => ∃ (vr : Value) (k : Nat) (xs : List Value) (qs : List Iv), v = vr ∧ k ≤ 2 ∧ i = .int .i64 (k : Int) ∧ qs = fmOf (partK P k) ∧ qs.length ≤ k ∧ wr.ownsRow W3.heap.size 29 6 vr qs.length xs ∧ IvsO wr w.heap.size vr xs qs ∧ Below W3.heap.size W3 wr) (fun _ i _ => 2 - (intOf i).toNat)
    case atStart => exact ⟨_, 0, [], [], rfl, Nat.zero_le _, rfl, by rw [partK_zero]; rfl, Nat.zero_le _, World.ownsRow_nil _ _ _ _, IvsO.nil _ _ _ _, Below.refl _ _⟩
    case round =>
      obtain ⟨v, k, xs, qs, hvr, hk, rfl, hqs, hql, hown, hiv, hbel⟩ := hrel
      have hvr2 := hvr.symm
      subst hvr2
      by_cases hlt : k < 2
      · obtain ⟨sd, F0, f0, F1, f1, c6, us0, us1, hsd⟩ := HSIDE.out k hlt
        obtain ⟨g, hg⟩ : ∃ g, decide (max P.1 (SD k).1 ≤ min P.2 (SD k).2) = g := ⟨_, rfl⟩
        obtain ⟨r, hr⟩ : ∃ r, r = ivOf (max P.1 (SD k).1) (min P.2 (SD k).2) := ⟨_, rfl⟩
        have hr2 : IvW (max P.1 (SD k).1, min P.2 (SD k).2) r := by rw [hr]; exact IvW.mk _
        have hst := partK_step HG.out hN hlt hg
        have hW1 := from_ HW3.out hbel
        have MT := Lib.hid (fun (W : World) (h : Below wr.heap.size wr W) => imeet_w (w := W) Hp.out HG.out hN hsd (ivn_side (N := 60) (by omega) k) (by omega) hr2 hg ((u0.below hW1).below h) ((u1.below hW1).below h) ((us0.below hbel).below h) ((us1.below hbel).below h))
        have hcc := six_keep c6 hbel
        obtain ⟨x0, x1, x2, x3, x4, x5⟩ := hcc
        have HAr := HA.out.below hbel
        obtain ⟨y0, y1, y2, y3, y4, y5, _, _, _, _, _, _, hltA⟩ := id HAr
        have hi3 : (k : Int) < 2 := by omega
        have hbg : ∀ b, v.ownBlock = some b → W3.heap.size ≤ b ∧ b < wr.heap.size := fun b hb => hown.lt b hb
        have Hbg := Lib.hid hbg
        have HO := Lib.hid hown
        have Hbel := Lib.hid hbel
        have Hqs := Lib.hid hqs
        have Hql := Lib.hid hql
        have Hiv := Lib.hid hiv
        have Hst := Lib.hid hst
        have Hr := Lib.hid hr
        have hax : Below wr.heap.size wr (wr.alloc (.cells #[.bool sd.n0, .bool sd.s0, .slice F0 sd.l0.length f0, .bool sd.n1, .bool sd.s1, .slice F1 sd.l1.length f1] 29)) := (Below.refl _ _).alloc (Nat.le_refl _) _
        have Hax := Lib.hid hax
        obtain ⟨i0, hi, hz0, hz1, hz2⟩ := info_parts infoIv
        clear hbg hown hbel hqs hql hiv hst hr hr2 hax hW1 c6 us0 us1 hsd HAr hg
        go_wp2_with fail
        refine (MT.out _ Hax.out).mono ?_
        rintro e w2 ⟨hT, hF, hc⟩
        have Hc2 := Lib.hid (from_ (from_ (Below.refl _ _) Hax.out) hc)
        clear x0 x1 x2 x3 x4 x5 y0 y1 y2 y3 y4 y5 MT
        cases g with
        | false =>
          obtain rfl := hF rfl
          have Hb2 := Lib.hid (from_ (from_ Hbel.out Hc2.out) ((Below.refl w2.heap.size w2).alloc (Nat.le_refl _) (.cells #[.bool false, .bool false, .slice none 0 0, .bool false, .bool false, .slice none 0 0] 29)))
          have HO2 := Lib.hid ((own_below HO.out Hc2.out).alloc (.cells #[.bool false, .bool false, .slice none 0 0, .bool false, .bool false, .slice none 0 0] 29))
          have HI2 := Lib.hid ((Hiv.out.below Hc2.out).below ((Below.refl w2.heap.size w2).alloc (Nat.le_refl _) (.cells #[.bool false, .bool false, .slice none 0 0, .bool false, .bool false, .slice none 0 0] 29)))
          have Hst2 := Lib.hid (show qs = fmOf (partK P (k + 1)) by rw [Hst.out]; simpa using Hqs.out)
          clear hT hF hc
          go_wp2
          go_roundw
          case rel => exact ⟨_, k + 1, xs, qs, rfl, by omega, by go_num, Hst2.out, by have := Hql.out; omega, HO2.out, HI2.out, Hb2.out⟩
          case measure => simp [intOf]; omega
        | true =>
          obtain ⟨rA, ra, rB, rb, rfl, v0, v1⟩ := hT rfl
          have Hv0 := Lib.hid v0
          have Hv1 := Lib.hid v1
          clear hT hF hc v0 v1
          go_upto_region 8 with fail
          have ha8 : Below w2.heap.size w2 (w2.alloc (.cells #[.bool r.n0, .bool r.s0, .slice rA r.l0.length ra, .bool r.n1, .bool r.s1, .slice rB r.l1.length rb] 29)) := (Below.refl _ _).alloc (Nat.le_refl _) _
          have B8 := Box6.new w2 (.bool r.n0) (.bool r.s0) (.slice rA r.l0.length ra) (.bool r.n1) (.bool r.s1) (.slice rB r.l1.length rb) 29
          obtain ⟨g8, hg8⟩ : ∃ g8, g8 = w2.heap.size := ⟨_, rfl⟩
          rw [← hg8] at B8
          try simp only [← hg8]
          have Hb8 := Lib.hid (from_ Hc2.out ha8)
          have hsz8 : w.heap.size ≤ (wr.alloc (.cells #[.bool sd.n0, .bool sd.s0, .slice F0 sd.l0.length f0, .bool sd.n1, .bool sd.s1, .slice F1 sd.l1.length f1] 29)).heap.size := Nat.le_trans (from_ HW3.out Hbel.out).size Hax.out.size
          have Hw0 := Lib.hid ((Hv0.out.toX (B := w.heap.size) (v := v) (fun b hb => Nat.lt_of_lt_of_le (Hbg.out b hb).2 Hax.out.size) hsz8).below ha8)
          have Hw1 := Lib.hid ((Hv1.out.toX (B := w.heap.size) (v := v) (fun b hb => Nat.lt_of_lt_of_le (Hbg.out b hb).2 Hax.out.size) hsz8).below ha8)
          clear hg8 ha8
          generalize w2.alloc (.cells #[.bool r.n0, .bool r.s0, .slice rA r.l0.length ra, .bool r.n1, .bool r.s1, .slice rB r.l1.length rb] 29) = W8 at *
          obtain ⟨x0, x1, x2, x3, x4, x5, _, _, _, _, _, _, _⟩ := id B8
          have hla := Hql.out
          go_wp2_with (at_builtin; go_loud (refine wpList_appF _ rfl _ _ 84 rfl W3.heap.size 29 i0 (.agg #[.bool false, .bool false, .slice none 0 0, .bool false, .bool false, .slice none 0 0]) 6 80 Try.underlying84 hi hz0 hz1 hz2 rfl (by omega) (by omega) _ _ _ rfl ((own_below HO.out Hb8.out).alloc _) W8.heap.size [.bool r.n0, .bool r.s0, .slice rA r.l0.length ra, .bool r.n1, .bool r.s1, .slice rB r.l1.length rb] rfl rfl six_news (by simp [Value.oneCell']) (by omega) (by have h1 := Hbel.out.size; have h2 := Hb8.out.size; simp; omega) ?_); intro v' wb hown' hgrow hfresh)
          have hal := (Below.refl W8.heap.size W8).alloc (Nat.le_refl _) (.cells #[.bool r.n0, .bool r.s0, .slice rA r.l0.length ra, .bool r.n1, .bool r.s1, .slice rB r.l1.length rb] 29)
          have hgB := (from_ (from_ Hbel.out Hb8.out) hal).grown hgrow (from_ (from_ Hbel.out Hb8.out) hal).size (fun b hb => (Hbg.out b hb).1)
          have hiv' := Lib.hid (IvsO.snoc (p := r) ((Hiv.out.below Hb8.out).below hal) HO.out.1 hgrow hfresh (Hw0.out.below hal) (Hw1.out.below hal))
          have Hst2 := Lib.hid (show qs ++ [r] = fmOf (partK P (k + 1)) by rw [Hst.out]; (try simp only [if_true]); rw [Hqs.out, Hr.out]; simp [fmOf])
          have HO' := Lib.hid hown'
          have HgB := Lib.hid hgB
          clear hgrow hfresh hal hown' hgB x0 x1 x2 x3 x4 x5
          go_wp2
          go_roundw
          case rel => exact ⟨_, k + 1, _, qs ++ [r], rfl, by omega, by go_num, Hst2.out, by rw [List.length_append, List.length_singleton]; omega, by rw [List.length_append, List.length_singleton]; exact HO'.out, hiv'.out, HgB.out⟩
          case measure => simp [intOf]; omega
      · obtain rfl : k = 2 := by omega
        obtain ⟨A9, a9, rfl, hX, hXb⟩ := hiv.fin hown
        rw [partK_two] at hqs
        subst hqs
        rw [fmOf_len] at *
        have HX := Lib.hid hX
        have hw3 := HW3.out.size
        have HXb := Lib.hid (fun b o h => Nat.le_trans hw3 (hXb b o h))
        have HE := Lib.hid (from_ HW3.out hbel)
        clear hown hiv hbel hX hXb hw3
        go_wp2
        go_ret
        exact ⟨A9, a9, rfl, HX.out, HXb.out, HE.out⟩

end Go.Proofs.Ytennphechbngcaa

namespace Go.Proofs.Ytennphechbngcaa
open Go.RowKit
set_option linter.unusedVariables false
set_option linter.unusedSimpArgs false

/-- The greatest number that may be left over, by an interval. -/
def modM (Q : Int × Int) : Int := plusE bigZ (max (-Q.1) Q.2) (-1)
/-- What is left over. -/
def modP (P Q : Int × Int) : Int × Int := if P.2 ≤ 0 then (max P.1 (-modM Q), 0) else if 0 ≤ P.1 then (0, min P.2 (modM Q)) else (max P.1 (-modM Q), min P.2 (modM Q))
theorem modM_ok {N : Nat} {Q : Int × Int} (h : IvN N Q.1 Q.2) (h0 : ¬ (Q.1 = 0 ∧ Q.2 = 0)) (hN : N ≤ 60) : Ext bigZ (wN N) (modM Q) ∧ 0 ≤ modM Q ∧ Ext bigZ (wN N) (max (-Q.1) Q.2) ∧ 1 ≤ max (-Q.1) Q.2 := by
  obtain ⟨a1, a2, a3, a4, a5⟩ := h
  have h3 := bigZ_pos
  have h4 := wN_le (show N ≤ 64 by omega)
  have h5 := wN_pos N
  have e1 : Ext bigZ (wN N) (max (-Q.1) Q.2) := ext_max a1.neg a2
  have e2 : 1 ≤ max (-Q.1) Q.2 := by omega
  refine ⟨?_, ?_, e1, e2⟩
  · unfold modM plusE
    generalize max (-Q.1) Q.2 = z at *
    unfold Ext at *
    have hb1 := big_one
    rw [if_neg (show ¬ (z = -bigZ ∨ (-1 : Int) = -bigZ) by omega)]
    split
    · exact .inl rfl
    · exact .inr (.inr (by omega))
  · unfold modM plusE
    generalize max (-Q.1) Q.2 = z at *
    have hb1 := big_one
    rw [if_neg (show ¬ (z = -bigZ ∨ (-1 : Int) = -bigZ) by omega)]
    split <;> omega
theorem ivn_mod {N : Nat} {P Q : Int × Int} (g : IvN N P.1 P.2) (h : IvN N Q.1 Q.2) (h0 : ¬ (Q.1 = 0 ∧ Q.2 = 0)) (hN : N ≤ 60) : IvN N (modP P Q).1 (modP P Q).2 := by
  obtain ⟨m1, m2, _, _⟩ := modM_ok h h0 hN
  obtain ⟨a1, a2, a3, a4, a5⟩ := g
  have h3 := bigZ_pos
  have h5 := wN_pos N
  have z : Ext bigZ (wN N) 0 := .inr (.inr (by omega))
  unfold modP
  split
  · exact ⟨ext_max a1 m1.neg, z, by dsimp only; omega, by dsimp only; omega, by dsimp only; omega⟩
  · split
    · exact ⟨z, ext_min a2 m1, by dsimp only; omega, by dsimp only; omega, by dsimp only; omega⟩
    · exact ⟨ext_max a1 m1.neg, ext_min a2 m1, by dsimp only; omega, by dsimp only; omega, by dsimp only; omega⟩
theorem igreatest_q {w : World} {Z Y : Zone} {x y z b d e : Int} {s t r : Bool} {l k m : List Nat} {A B : Option Addr} {c f : Nat} (h1 : Pl x b s l) (h2 : Pl y d t k) (h3 : Pl z e r m) (hz : max x y = z) (hu : U64s w Z A c l) (hv : U64s w Y B f k) (hl : l.length ≤ 9000) (hl2 : k.length ≤ 9000) :
    Calls Try.prog 63 #[.agg #[.int .i64 b, .bool s, .slice A l.length c], .agg #[.int .i64 d, .bool t, .slice B k.length f]] w fun e' w' => ∃ A' c', e' = .returned (.agg #[.int .i64 e, .bool r, .slice A' m.length c']) ∧ U64s w' old A' c' m ∧ Below w.heap.size w w' := by
  obtain ⟨rb, rs, rl, rA, rc, K⟩ := Pick.ex (decide (y ≤ x)) b s l A c d t k B f
  have g := K.pl h1 h2
  rw [show (bif decide (y ≤ x) then x else y) = z by rw [← hz]; by_cases h : y ≤ x <;> simp [h] <;> omega] at g
  have u := K.u64s hu hv
  obtain rfl := g.uniq.1.trans h3.uniq.1.symm
  obtain rfl := g.uniq.2.1.trans h3.uniq.2.1.symm
  obtain rfl := g.uniq.2.2.trans h3.uniq.2.2.symm
  refine (igreatest_p h1 h2 hu hv hl hl2 K).mono ?_
  rintro e' w' ⟨rfl, hb⟩
  exact ⟨_, _, rfl, u.below hb, hb⟩
theorem ileast_q {w : World} {Z Y : Zone} {x y z b d e : Int} {s t r : Bool} {l k m : List Nat} {A B : Option Addr} {c f : Nat} (h1 : Pl x b s l) (h2 : Pl y d t k) (h3 : Pl z e r m) (hz : min x y = z) (hu : U64s w Z A c l) (hv : U64s w Y B f k) (hl : l.length ≤ 9000) (hl2 : k.length ≤ 9000) :
    Calls Try.prog 65 #[.agg #[.int .i64 b, .bool s, .slice A l.length c], .agg #[.int .i64 d, .bool t, .slice B k.length f]] w fun e' w' => ∃ A' c', e' = .returned (.agg #[.int .i64 e, .bool r, .slice A' m.length c']) ∧ U64s w' old A' c' m ∧ Below w.heap.size w w' := by
  obtain ⟨rb, rs, rl, rA, rc, K⟩ := Pick.ex (decide (x ≤ y)) b s l A c d t k B f
  have g := K.pl h1 h2
  rw [show (bif decide (x ≤ y) then x else y) = z by rw [← hz]; by_cases h : x ≤ y <;> simp [h] <;> omega] at g
  have u := K.u64s hu hv
  obtain rfl := g.uniq.1.trans h3.uniq.1.symm
  obtain rfl := g.uniq.2.1.trans h3.uniq.2.1.symm
  obtain rfl := g.uniq.2.2.trans h3.uniq.2.2.symm
  refine (ileast_p h1 h2 hu hv hl hl2 K).mono ?_
  rintro e' w' ⟨rfl, hb⟩
  exact ⟨_, _, rfl, u.below hb, hb⟩

-- a box of a place: no words lie in it
def NoU (w : World) (g : Nat) : Prop := ∀ o n, w.cell? ⟨g, o, none⟩ ≠ some (.int .u64 n)
structure Bx3 (w : World) (g : Nat) : Prop where
  box : Box3 w g (.int .i64 0) (.bool false) (.slice none 0 0)
  no : NoU w g
theorem NoU.below {w w' : World} {g : Nat} (h : NoU w g) (hl : g < w.heap.size) (hb : Below w.heap.size w w') : NoU w' g := fun o n e => h o n ((World.cell?_of_block (w := w) (a := ⟨g, o, none⟩) (hb.block g hl)).symm.trans e)
theorem NoU.new (w : World) (x : Int) (s : Bool) (A : Option Addr) (n c : Nat) (t : TypeId) : NoU (w.alloc (.cells #[.int .i64 x, .bool s, .slice A n c] t)) w.heap.size := fun o m e => by
  have h := cell_of_row (w.alloc (.cells #[.int .i64 x, .bool s, .slice A n c] t)) w.heap.size o #[.int .i64 x, .bool s, .slice A n c] t (0, 0) (heap_alloc_new w _)
  rw [h] at e
  match o, e with
  | 0, e => cases e
  | 1, e => cases e
  | 2, e => cases e
  | o + 3, e => simp at e
theorem Bx3.new (w : World) (t : TypeId) : Bx3 (w.alloc (.cells #[.int .i64 0, .bool false, .slice none 0 0] t)) w.heap.size := ⟨Box3.new _ _ _ _ _, NoU.new _ _ _ _ _ _ _⟩
theorem Bx3.below {w w' : World} {g : Nat} (h : Bx3 w g) (hb : Below w.heap.size w w') : Bx3 w' g := ⟨h.box.below hb, h.no.below h.box.lt hb⟩
theorem Bx3.new2 (w : World) (o : Obj) (t : TypeId) : Bx3 ((w.alloc o).alloc (.cells #[.int .i64 0, .bool false, .slice none 0 0] t)) (w.heap.size + 1) := by
  have h := Bx3.new (w.alloc o) t
  rw [World.size_alloc] at h
  exact h
/-- A zone without one block. -/
def zNe (g : Nat) : Zone := ⟨fun b => b ≠ g, False⟩
theorem U64s.offB {w : World} {Z : Zone} {A : Option Addr} {c : Nat} {l : List Nat} {g : Nat} (u : U64s w Z A c l) (h : NoU w g) : U64s w (zNe g) A c l :=
  ⟨u.small, u.cap, u.max, u.nul, fun h0 => by
    obtain ⟨b, o, e, _, _, hc⟩ := u.row h0
    refine ⟨b, o, e, fun hbg => ?_, fun h => h.elim, hc⟩
    subst hbg
    have h1 := hc 0 _ (List.getElem?_eq_getElem h0)
    rw [List.getElem_map] at h1
    exact h _ _ h1⟩
theorem U64s.set3n {w : World} {Z : Zone} {A : Option Addr} {c : Nat} {l : List Nat} {g : Nat} (u : U64s w Z A c l) (h : NoU w g) (x0 x1 x2 : Value) : U64s (((w.setCell ⟨g, 0, none⟩ x0).setCell ⟨g, 1, none⟩ x1).setCell ⟨g, 2, none⟩ x2) old A c l :=
  ((((u.offB h).set1 g 0 (fun h => h rfl) x0).set1 g 1 (fun h => h rfl) x1).set1 g 2 (fun h => h rfl) x2).mono (le_old _)
theorem NoU.set3 {w : World} {g h : Nat} (u : NoU w h) (hn : g ≠ h) (x0 x1 x2 : Value) : NoU (((w.setCell ⟨g, 0, none⟩ x0).setCell ⟨g, 1, none⟩ x1).setCell ⟨g, 2, none⟩ x2) h := fun o n e => by
  rw [World.cell?_setCell_other _ _ _ _ (fun h => hn (by injection h)), World.cell?_setCell_other _ _ _ _ (fun h => hn (by injection h)), World.cell?_setCell_other _ _ _ _ (fun h => hn (by injection h))] at e
  exact u o n e
/-- What a region that makes one place leaves. -/
structure Res1 (W0 w : World) (g : Nat) (b : Int) (s : Bool) (l : List Nat) (A : Option Addr) (c : Nat) : Prop where
  box : Box3 w g (.int .i64 b) (.bool s) (.slice A l.length c)
  no : NoU w g
  u : U64s w old A c l
  lo : W0.heap.size ≤ g
  bel : Below W0.heap.size W0 w
theorem Res1.nw {W0 w : World} {b : Int} {s : Bool} {l : List Nat} {A : Option Addr} {c : Nat} {Z : Zone} {t : TypeId} (Hc : Below W0.heap.size W0 w) (u : U64s w Z A c l) : Res1 W0 (w.alloc (.cells #[.int .i64 b, .bool s, .slice A l.length c] t)) w.heap.size b s l A c :=
  ⟨Box3.new _ _ _ _ _, NoU.new _ _ _ _ _ _ _, (u.mono (le_old _)).below ((Below.refl _ _).alloc (Nat.le_refl _) _), Hc.size, from_ Hc ((Below.refl _ _).alloc (Nat.le_refl _) _)⟩
theorem NoU.of3 {w : World} {g : Nat} {x : Int} {s : Bool} {A : Option Addr} {n c : Nat} (h : NoU w g) (hb : Bx3 w g) : NoU (((w.setCell ⟨g, 0, none⟩ (.int .i64 x)).setCell ⟨g, 1, none⟩ (.bool s)).setCell ⟨g, 2, none⟩ (.slice A n c)) g := fun o m e => by
  have hb3 := hb.box.set3 (.int .i64 x) (.bool s) (.slice A n c)
  by_cases h0 : o = 0
  · subst h0; rw [hb3.c0] at e; cases e
  · by_cases h1 : o = 1
    · subst h1; rw [hb3.c1] at e; cases e
    · by_cases h2 : o = 2
      · subst h2; rw [hb3.c2] at e; cases e
      · rw [World.cell?_setCell_other _ _ _ _ (fun h => h2 (by injection h with _ h; exact h.symm)), World.cell?_setCell_other _ _ _ _ (fun h => h1 (by injection h with _ h; exact h.symm)), World.cell?_setCell_other _ _ _ _ (fun h => h0 (by injection h with _ h; exact h.symm))] at e
        exact h o m e
theorem Res1.ol {W0 w : World} {g : Nat} {b : Int} {s : Bool} {l : List Nat} {A : Option Addr} {c : Nat} {Z : Zone} (Hc : Below W0.heap.size W0 w) (H : Bx3 w g) (hg : W0.heap.size ≤ g) (u : U64s w Z A c l) : Res1 W0 (((w.setCell ⟨g, 0, none⟩ (.int .i64 b)).setCell ⟨g, 1, none⟩ (.bool s)).setCell ⟨g, 2, none⟩ (.slice A l.length c)) g b s l A c :=
  ⟨H.box.set3 _ _ _, H.no.of3 H, u.set3n H.no _ _ _, hg, set3_below Hc hg _ _ _⟩
/-- What a region that makes two places leaves. -/
structure Res2 (W0 w : World) (g h : Nat) (b : Int) (s : Bool) (l : List Nat) (A : Option Addr) (c : Nat) (d : Int) (t : Bool) (k : List Nat) (B : Option Addr) (f : Nat) : Prop where
  bx : Box3 w g (.int .i64 b) (.bool s) (.slice A l.length c)
  by_ : Box3 w h (.int .i64 d) (.bool t) (.slice B k.length f)
  nx : NoU w g
  ny : NoU w h
  u : U64s w old A c l
  v : U64s w old B f k
  lx : W0.heap.size ≤ g
  ly : W0.heap.size ≤ h
  ne : g ≠ h
  bel : Below W0.heap.size W0 w
section
variable {W0 w : World} {g h : Nat} {b : Int} {s : Bool} {l : List Nat} {A : Option Addr} {c : Nat} {d : Int} {t : Bool} {k : List Nat} {B : Option Addr} {f : Nat} {Z Y : Zone} {T : TypeId}
theorem Res2.nn (Hc : Below W0.heap.size W0 w) (u : U64s w Z A c l) (v : U64s w Y B f k) : Res2 W0 ((w.alloc (.cells #[.int .i64 b, .bool s, .slice A l.length c] T)).alloc (.cells #[.int .i64 d, .bool t, .slice B k.length f] T)) w.heap.size (w.heap.size + 1) b s l A c d t k B f := by
  have r := Res1.nw (t := T) (b := b) (s := s) Hc u
  have r2 := Res1.nw (t := T) (b := d) (s := t) r.bel (v.below ((Below.refl _ _).alloc (Nat.le_refl _) (.cells #[.int .i64 b, .bool s, .slice A l.length c] T)))
  rw [World.size_alloc] at r2
  have hal := (Below.refl (w.alloc (.cells #[.int .i64 b, .bool s, .slice A l.length c] T)).heap.size (w.alloc (.cells #[.int .i64 b, .bool s, .slice A l.length c] T))).alloc (Nat.le_refl _) (.cells #[.int .i64 d, .bool t, .slice B k.length f] T)
  exact ⟨r.box.below hal, r2.box, r.no.below r.box.lt hal, r2.no, r.u.below hal, r2.u, r.lo, r2.lo, by omega, r2.bel⟩
theorem Res2.nm (Hc : Below W0.heap.size W0 w) (u : U64s w Z A c l) (v : U64s w Y B f k) : Res2 W0 ((w.alloc (.cells #[.int .i64 d, .bool t, .slice B k.length f] T)).alloc (.cells #[.int .i64 b, .bool s, .slice A l.length c] T)) (w.heap.size + 1) w.heap.size b s l A c d t k B f := by
  have r := Res2.nn (T := T) (b := d) (s := t) (d := b) (t := s) Hc v u
  exact ⟨r.by_, r.bx, r.ny, r.nx, r.v, r.u, r.ly, r.lx, r.ne.symm, r.bel⟩
theorem Res2.on (Hc : Below W0.heap.size W0 w) (H : Bx3 w g) (hg : W0.heap.size ≤ g) (u : U64s w Z A c l) (v : U64s w Y B f k) : Res2 W0 ((((w.setCell ⟨g, 0, none⟩ (.int .i64 b)).setCell ⟨g, 1, none⟩ (.bool s)).setCell ⟨g, 2, none⟩ (.slice A l.length c)).alloc (.cells #[.int .i64 d, .bool t, .slice B k.length f] T)) g w.heap.size b s l A c d t k B f := by
  have r := Res1.ol (b := b) (s := s) Hc H hg u
  have v2 := v.set3n H.no (.int .i64 b) (.bool s) (.slice A l.length c)
  have r2 := Res1.nw (t := T) (b := d) (s := t) r.bel v2
  have hz : (((w.setCell ⟨g, 0, none⟩ (.int .i64 b)).setCell ⟨g, 1, none⟩ (.bool s)).setCell ⟨g, 2, none⟩ (.slice A l.length c)).heap.size = w.heap.size := by simp
  rw [hz] at r2
  have hal := (Below.refl _ (((w.setCell ⟨g, 0, none⟩ (.int .i64 b)).setCell ⟨g, 1, none⟩ (.bool s)).setCell ⟨g, 2, none⟩ (.slice A l.length c))).alloc (Nat.le_refl _) (.cells #[.int .i64 d, .bool t, .slice B k.length f] T)
  have hlt := H.box.lt
  exact ⟨r.box.below hal, r2.box, r.no.below r.box.lt hal, r2.no, r.u.below hal, r2.u, r.lo, r2.lo, by omega, r2.bel⟩
theorem Res2.no (Hc : Below W0.heap.size W0 w) (H : Bx3 w h) (hg : W0.heap.size ≤ h) (u : U64s w Z A c l) (v : U64s w Y B f k) : Res2 W0 ((((w.setCell ⟨h, 0, none⟩ (.int .i64 d)).setCell ⟨h, 1, none⟩ (.bool t)).setCell ⟨h, 2, none⟩ (.slice B k.length f)).alloc (.cells #[.int .i64 b, .bool s, .slice A l.length c] T)) w.heap.size h b s l A c d t k B f := by
  have r := Res2.on (T := T) (b := d) (s := t) (d := b) (t := s) Hc H hg v u
  exact ⟨r.by_, r.bx, r.ny, r.nx, r.v, r.u, r.ly, r.lx, r.ne.symm, r.bel⟩
theorem Res2.oo (Hc : Below W0.heap.size W0 w) (H : Bx3 w g) (H2 : Bx3 w h) (hg : W0.heap.size ≤ g) (hh : W0.heap.size ≤ h) (hn : g ≠ h) (u : U64s w Z A c l) (v : U64s w Y B f k) :
    Res2 W0 ((((((w.setCell ⟨g, 0, none⟩ (.int .i64 b)).setCell ⟨g, 1, none⟩ (.bool s)).setCell ⟨g, 2, none⟩ (.slice A l.length c)).setCell ⟨h, 0, none⟩ (.int .i64 d)).setCell ⟨h, 1, none⟩ (.bool t)).setCell ⟨h, 2, none⟩ (.slice B k.length f)) g h b s l A c d t k B f := by
  have r := Res1.ol (b := b) (s := s) Hc H hg u
  have b2 : Bx3 (((w.setCell ⟨g, 0, none⟩ (.int .i64 b)).setCell ⟨g, 1, none⟩ (.bool s)).setCell ⟨g, 2, none⟩ (.slice A l.length c)) h := ⟨H2.box.oth3 g hn _ _ _, H2.no.set3 hn _ _ _⟩
  have v2 := v.set3n H.no (.int .i64 b) (.bool s) (.slice A l.length c)
  have r2 := Res1.ol (b := d) (s := t) r.bel b2 hh v2
  exact ⟨r.box.oth3 h (Ne.symm hn) _ _ _, r2.box, r.no.set3 (Ne.symm hn) _ _ _, r2.no, r.u.set3n b2.no _ _ _, r2.u, hg, hh, hn, r2.bel⟩
end

end Go.Proofs.Ytennphechbngcaa

namespace Go.Proofs.Ytennphechbngcaa
open Go.RowKit
set_option linter.unusedVariables false
set_option linter.unusedSimpArgs false

end Go.Proofs.Ytennphechbngcaa
