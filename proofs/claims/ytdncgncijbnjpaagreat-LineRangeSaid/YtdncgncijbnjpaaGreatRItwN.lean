/- Linear forms: what they may be, plain. No conditions. -/
import Derived.Deep.DeepCutAuto
import Derived.Deep.RegionHeld3
import Derived.Test.YtdncgncijbnjpaaGreatRWhV
import Derived.Test.YtdncgncijbnjpaaGreatRWhM
import Derived.Test.YtdncgncijbnjpaaGreatRWhJ
import Derived.Test.YtdncgncijbnjpaaGreatRWhU
import Derived.Test.YtdncgncijbnjpaaGreatRRefI
set_option linter.unusedVariables false
set_option linter.unusedSimpArgs false
set_option maxRecDepth 100000
set_option maxHeartbeats 40000000
namespace Go.Proofs.YtdncgncijbnjpaaGreat
open Go.Lib (hid)
open Go.RowKit
variable {A B C D rA : Option Addr} {B0 M N a b c d f g h i j rc : Nat} {V W W' W0 w' : World} {Y Z Z1 Z2 Z3 Z4 : Zone} {a0 a1 a2 a3 a4 a5 b0 b1 b2 b3 b4 b5 v x0 x1 x2 x3 x4 x5 y0 y1 y2 : Value} {e rb x y z z0 z1 : Int} {k0 k1 l' l0 l1 m rl rl0 rl1 : List Nat} {m0 m1 n' n0 r rn0 rn1 rs rs0 rs1 s s' s0 s1 t t0 t1 : Bool} {o : Obj} {q : Iv} {ty : TypeId} {xs : List Value}
def EndL (z : Int) (n s : Bool) (l : List Nat) : Prop := n = nLo z ∧ s = sE z ∧ l = lE z
def EndH (z : Int) (n s : Bool) (l : List Nat) : Prop := n = nHi z ∧ s = sE z ∧ l = lE z
theorem EndL.same {n : Bool} {l : List Nat} (h : EndL z n s l) (h' : EndL x n' s' l') (e : z = x) : n' = n ∧ s' = s ∧ l' = l := by
 subst e
 obtain ⟨rfl, rfl, rfl⟩ := h
 obtain ⟨rfl, rfl, rfl⟩ := h'
 exact ⟨rfl, rfl, rfl⟩
theorem EndH.same {n : Bool} {l : List Nat} (h : EndH z n s l) (h' : EndH x n' s' l') (e : z = x) : n' = n ∧ s' = s ∧ l' = l := by
 subst e
 obtain ⟨rfl, rfl, rfl⟩ := h
 obtain ⟨rfl, rfl, rfl⟩ := h'
 exact ⟨rfl, rfl, rfl⟩
theorem Box6.hi3 {a b c d e f : Value} (h : Box6 W g a b c d e f) (x y z : Value) : Box6 (((W.setCell ⟨g, 3, none⟩ x).setCell ⟨g, 4, none⟩ y).setCell ⟨g, 5, none⟩ z) g a b c x y z :=
 BoxL.six ((((BoxL.of6 h).set 3 x rfl).set 4 y rfl).set 5 z rfl)
theorem Below.set3 {w : World} (h : Below w.heap.size w W) (g i j k : Nat) (hg : w.heap.size ≤ g) (x y z : Value) : Below w.heap.size w (((W.setCell ⟨g, i, none⟩ x).setCell ⟨g, j, none⟩ y).setCell ⟨g, k, none⟩ z) :=
 ((h.setCell (p := ⟨g, i, none⟩) hg _).setCell (p := ⟨g, j, none⟩) hg _).setCell (p := ⟨g, k, none⟩) hg _
theorem okA_le {n1 : Bool} (h : okA n0 s0 l0 n1 s1 l1 = true) (m0 : Small l0) (m1 : Small l1) (q0 : l0.length ≤ 6000) (q1 : l1.length ≤ 6000) : loV n0 s0 l0 ≤ hiV n1 s1 l1 := by
 have A := lo_range (n := n0) (s := s0) m0 q0
 have B := hi_range (n := n1) (s := s1) m1 q1
 unfold okA at h
 simp only [Bool.and_eq_true, Bool.or_eq_true, decide_eq_true_eq] at h
 obtain ⟨_, _, h⟩ := h
 rcases h with rfl | rfl | h
 · show -bigZ ≤ _; omega
 · show _ ≤ bigZ; omega
 · cases n0
   · cases n1
     · exact h
     · show _ ≤ bigZ; omega
   · show -bigZ ≤ _; omega
theorem given4 {p q r s : Pq} (h1 : Pl p.x p.b p.s p.l) (h2 : Pl q.x q.b q.s q.l) (h3 : Pl r.x r.b r.s r.l) (h4 : Pl s.x s.b s.s s.l) (u1 : U64s W Z1 A a p.l) (u2 : U64s W Z2 B b q.l) (u3 : U64s W Z3 C c r.l) (u4 : U64s W Z4 D d s.l) (q1 : p.l.length ≤ 9000) (q2 : q.l.length ≤ 9000) (q3 : r.l.length ≤ 9000) (q4 : s.l.length ≤ 9000) :
  GivenP (W.alloc (.cells #[.int .i64 p.b, .bool p.s, .slice A p.l.length a, .int .i64 q.b, .bool q.s, .slice B q.l.length b, .int .i64 r.b, .bool r.s, .slice C r.l.length c, .int .i64 s.b, .bool s.s, .slice D s.l.length d] ty)) W.heap.size [p, q, r, s] := fun j hj => by
 have E : Below W.heap.size W (W.alloc (.cells #[.int .i64 p.b, .bool p.s, .slice A p.l.length a, .int .i64 q.b, .bool q.s, .slice B q.l.length b, .int .i64 r.b, .bool r.s, .slice C r.l.length c, .int .i64 s.b, .bool s.s, .slice D s.l.length d] ty)) := (Below.refl _ W).alloc (Nat.le_refl _) _
 match j, hj with
 | 0, _ => exact ⟨A, a, cell_newest rfl rfl, cell_newest rfl rfl, cell_newest rfl rfl, h1, (u1.below E).mono (le_old _), q1⟩
 | 1, _ => exact ⟨B, b, cell_newest rfl rfl, cell_newest rfl rfl, cell_newest rfl rfl, h2, (u2.below E).mono (le_old _), q2⟩
 | 2, _ => exact ⟨C, c, cell_newest rfl rfl, cell_newest rfl rfl, cell_newest rfl rfl, h3, (u3.below E).mono (le_old _), q3⟩
 | 3, _ => exact ⟨D, d, cell_newest rfl rfl, cell_newest rfl rfl, cell_newest rfl rfl, h4, (u4.below E).mono (le_old _), q4⟩
theorem given2 {p q : Pq} (h1 : Pl p.x p.b p.s p.l) (h2 : Pl q.x q.b q.s q.l) (u1 : U64s W Z1 A a p.l) (u2 : U64s W Z2 B b q.l) (q1 : p.l.length ≤ 9000) (q2 : q.l.length ≤ 9000) :
  GivenP (W.alloc (.cells #[.int .i64 p.b, .bool p.s, .slice A p.l.length a, .int .i64 q.b, .bool q.s, .slice B q.l.length b] ty)) W.heap.size [p, q] := fun j hj => by
 have C : Below W.heap.size W (W.alloc (.cells #[.int .i64 p.b, .bool p.s, .slice A p.l.length a, .int .i64 q.b, .bool q.s, .slice B q.l.length b] ty)) := (Below.refl _ W).alloc (Nat.le_refl _) _
 match j, hj with
 | 0, _ => exact ⟨A, a, cell_newest rfl rfl, cell_newest rfl rfl, cell_newest rfl rfl, h1, (u1.below C).mono (le_old _), q1⟩
 | 1, _ => exact ⟨B, b, cell_newest rfl rfl, cell_newest rfl rfl, cell_newest rfl rfl, h2, (u2.below C).mono (le_old _), q2⟩
theorem min4 {a b c d m : Int} (h : m = lo4 a b c d) : (∀ x ∈ [a, b, c, d], m ≤ x) ∧ m ∈ [a, b, c, d] := by
 subst h
 unfold lo4
 constructor
 · intro x hx
   simp only [List.mem_cons, List.not_mem_nil, or_false] at hx
   rcases hx with rfl | rfl | rfl | rfl <;> omega
 · simp only [List.mem_cons, List.not_mem_nil, or_false]
   omega
theorem max4 {a b c d m : Int} (h : m = hi4 a b c d) : (∀ x ∈ [a, b, c, d], x ≤ m) ∧ m ∈ [a, b, c, d] := by
 subst h
 unfold hi4
 constructor
 · intro x hx
   simp only [List.mem_cons, List.not_mem_nil, or_false] at hx
   rcases hx with rfl | rfl | rfl | rfl <;> omega
 · simp only [List.mem_cons, List.not_mem_nil, or_false]
   omega
theorem ends_of {ps : List Pq} {m : Int} (h : (∀ x ∈ ps.map Pq.x, m ≤ x) ∧ m ∈ ps.map Pq.x) : (∀ j (hj : j < ps.length), m ≤ ps[j].x) ∧ ∃ j, ∃ (hj : j < ps.length), ps[j].x = m := by
 refine ⟨fun j hj => h.1 _ (List.mem_map.2 ⟨_, List.getElem_mem hj, rfl⟩), ?_⟩
 obtain ⟨p, A, e⟩ := List.mem_map.1 h.2
 obtain ⟨j, hj, rfl⟩ := List.getElem_of_mem A
 exact ⟨j, hj, e⟩
theorem ends_of' {ps : List Pq} {m : Int} (h : (∀ x ∈ ps.map Pq.x, x ≤ m) ∧ m ∈ ps.map Pq.x) : (∀ j (hj : j < ps.length), ps[j].x ≤ m) ∧ ∃ j, ∃ (hj : j < ps.length), ps[j].x = m := by
 refine ⟨fun j hj => h.1 _ (List.mem_map.2 ⟨_, List.getElem_mem hj, rfl⟩), ?_⟩
 obtain ⟨p, A, e⟩ := List.mem_map.1 h.2
 obtain ⟨j, hj, rfl⟩ := List.getElem_of_mem A
 exact ⟨j, hj, e⟩
theorem icorners4 {p q r s : Pq} (h1 : Pl p.x p.b p.s p.l) (h2 : Pl q.x q.b q.s q.l) (h3 : Pl r.x r.b r.s r.l) (h4 : Pl s.x s.b s.s s.l) (u1 : U64s W Z1 A a p.l) (u2 : U64s W Z2 B b q.l) (u3 : U64s W Z3 C c r.l) (u4 : U64s W Z4 D d s.l) (q1 : p.l.length ≤ 9000) (q2 : q.l.length ≤ 9000) (q3 : r.l.length ≤ 9000) (q4 : s.l.length ≤ 9000)
  {m M : Int} (hm : m = lo4 p.x q.x r.x s.x) (hM : M = hi4 p.x q.x r.x s.x) (gm : m < bigZ) (gM : -bigZ < M) {n1 : Bool} (e0 : EndL m n0 s0 l0) (e1 : EndH M n1 s1 l1) :
  Calls Tryz.prog 144 #[.slice (some ⟨W.heap.size, 0, none⟩) 4 4] (W.alloc (.cells #[.int .i64 p.b, .bool p.s, .slice A p.l.length a, .int .i64 q.b, .bool q.s, .slice B q.l.length b, .int .i64 r.b, .bool r.s, .slice C r.l.length c, .int .i64 s.b, .bool s.s, .slice D s.l.length d] ty)) fun e w' => ∃ A1 c1 A2 c2, e = .returned (.agg #[.bool n0, .bool s0, .slice A1 l0.length c1, .bool n1, .bool s1, .slice A2 l1.length c2]) ∧ U64s w' (new W.heap.size) A1 c1 l0 ∧ U64s w' (new W.heap.size) A2 c2 l1 ∧ Below W.heap.size W w' := by
 have F := ends_of (ps := [p, q, r, s]) (min4 hm)
 have G := ends_of' (ps := [p, q, r, s]) (max4 hM)
 have E : Below W.heap.size W (W.alloc (.cells #[.int .i64 p.b, .bool p.s, .slice A p.l.length a, .int .i64 q.b, .bool q.s, .slice B q.l.length b, .int .i64 r.b, .bool r.s, .slice C r.l.length c, .int .i64 s.b, .bool s.s, .slice D s.l.length d] ty)) := (Below.refl _ W).alloc (Nat.le_refl _) _
 refine (icorners_p (n := 4) (c := 4) (given4 h1 h2 h3 h4 u1 u2 u3 u4 q1 q2 q3 q4) rfl (by simp) F.1 F.2 G.1 G.2 gm gM e0 e1).mono ?_
 rintro e w' ⟨A1, c1, A2, c2, rfl, H, I, J⟩
 exact ⟨A1, c1, A2, c2, rfl, H.mono (new_le E.size), I.mono (new_le E.size), from_ E J⟩
theorem boxX (w : World) (a0 a1 a2 a3 a4 a5 b0 b1 b2 b3 b4 b5 r0 r1 r2 r3 r4 r5 : Value) (t : TypeId) :
  Box6 (((w.alloc (.cells #[a0, a1, a2, a3, a4, a5] t)).alloc (.cells #[b0, b1, b2, b3, b4, b5] t)).alloc (.cells #[r0, r1, r2, r3, r4, r5] t)) w.heap.size a0 a1 a2 a3 a4 a5 ∧
  Box6 (((w.alloc (.cells #[a0, a1, a2, a3, a4, a5] t)).alloc (.cells #[b0, b1, b2, b3, b4, b5] t)).alloc (.cells #[r0, r1, r2, r3, r4, r5] t)) (w.heap.size + 1) b0 b1 b2 b3 b4 b5 ∧
  Box6 (((w.alloc (.cells #[a0, a1, a2, a3, a4, a5] t)).alloc (.cells #[b0, b1, b2, b3, b4, b5] t)).alloc (.cells #[r0, r1, r2, r3, r4, r5] t)) (w.heap.size + 2) r0 r1 r2 r3 r4 r5 ∧
  Below w.heap.size w (((w.alloc (.cells #[a0, a1, a2, a3, a4, a5] t)).alloc (.cells #[b0, b1, b2, b3, b4, b5] t)).alloc (.cells #[r0, r1, r2, r3, r4, r5] t)) := by
 obtain ⟨B, C, D⟩ := boxT w a0 a1 a2 a3 a4 a5 b0 b1 b2 b3 b4 b5 t
 have A := Box6.new ((w.alloc (.cells #[a0, a1, a2, a3, a4, a5] t)).alloc (.cells #[b0, b1, b2, b3, b4, b5] t)) r0 r1 r2 r3 r4 r5 t
 rw [show ((w.alloc (.cells #[a0, a1, a2, a3, a4, a5] t)).alloc (.cells #[b0, b1, b2, b3, b4, b5] t)).heap.size = w.heap.size + 2 by simp] at A
 exact ⟨B.alloc _, C.alloc _, A, D.alloc (by simp; omega) _⟩
theorem boxT_st6 {r : Nat} {x0 x1 x2 x3 x4 x5 : Value} (hg : r ≠ g) (hh : r ≠ h)
  (hs : D6 W g a0 a1 a2 a3 a4 a5 (C6 W h b0 b1 b2 b3 b4 b5)) :
  let V := ((((((W.setCell ⟨r, 0, none⟩ x0).setCell ⟨r, 1, none⟩ x1).setCell ⟨r, 2, none⟩ x2).setCell ⟨r, 3, none⟩ x3).setCell ⟨r, 4, none⟩ x4).setCell ⟨r, 5, none⟩ x5)
  D6 V g a0 a1 a2 a3 a4 a5 (C6 V h b0 b1 b2 b3 b4 b5) := by
 obtain ⟨A, B, C, D, E, F, G, H, I, J, K, L⟩ := hs
 exact ⟨st6 A hg, st6 B hg, st6 C hg, st6 D hg, st6 E hg, st6 F hg, st6 G hh, st6 H hh, st6 I hh, st6 J hh, st6 K hh, st6 L hh⟩
theorem ijoin_p {w : World} {n1 : Bool} 
  (u1 : U64s w Z1 A a l0) (u2 : U64s w Z2 B b l1) (u3 : U64s w Z3 C c k0) (u4 : U64s w Z4 D d k1) (h1 : okA n0 s0 l0 n1 s1 l1 = true) (h2 : okA m0 t0 k0 m1 t1 k1 = true)
  (q1 : l0.length ≤ 6000) (q2 : l1.length ≤ 6000) (q3 : k0.length ≤ 6000) (q4 : k1.length ≤ 6000)
  (hz0 : z0 = min (loV n0 s0 l0) (loV m0 t0 k0)) (hz1 : z1 = max (hiV n1 s1 l1) (hiV m1 t1 k1)) (e0 : EndL z0 rn0 rs0 rl0) (e1 : EndH z1 rn1 rs1 rl1) :
  Calls Tryz.prog 93 #[.agg #[.bool n0, .bool s0, .slice A l0.length a, .bool n1, .bool s1, .slice B l1.length b], .agg #[.bool m0, .bool t0, .slice C k0.length c, .bool m1, .bool t1, .slice D k1.length d]] w fun e w' => ∃ rA ra rB rb, e = .returned (.agg #[.bool rn0, .bool rs0, .slice rA rl0.length ra, .bool rn1, .bool rs1, .slice rB rl1.length rb]) ∧ U64s w' (new w.heap.size) rA ra rl0 ∧ U64s w' (new w.heap.size) rB rb rl1 ∧ Below w.heap.size w w' := by
 obtain ⟨x, y, O, z⟩ := boxX w (.bool n0) (.bool s0) (.slice A l0.length a) (.bool n1) (.bool s1) (.slice B l1.length b) (.bool m0) (.bool t0) (.slice C k0.length c) (.bool m1) (.bool t1) (.slice D k1.length d) (.bool false) (.bool false) (.slice none 0 0) (.bool false) (.bool false) (.slice none 0 0) 39
 obtain ⟨Ka, Kb⟩ := okA_ends h1
 obtain ⟨Kc, Kd⟩ := okA_ends h2
 obtain ⟨x1, Ke, Kf, Km, Kn, I⟩ := Plc.ex (-1) n0 s0 l0 A a
 obtain ⟨x2, Kg, Kh, Ko, Kp, J⟩ := Plc.ex 1 n1 s1 l1 B b
 obtain ⟨x3, Ki, Kj, Kq, Kr, K⟩ := Plc.ex (-1) m0 t0 k0 C c
 obtain ⟨x4, Kk, Kl, Ks, Kt, L⟩ := Plc.ex 1 m1 t1 k1 D d
 have T := I.lo Ka u1.small q1
 have U := J.hi Kb u2.small q2
 have V := K.lo Kc u3.small q3
 have X := L.hi Kd u4.small q4
 have r1 := I.len
 have r2 := J.len
 have r3 := K.len
 have r4 := L.len
 have Y := I.u64s u1
 have Z := J.u64s u2
 have v3 := K.u64s u3
 have v4 := L.u64s u4
 have i1 := lo_range (n := n0) (s := s0) u1.small q1
 have i2 := hi_range (n := n1) (s := s1) u2.small q2
 have i3 := lo_range (n := m0) (s := t0) u3.small q3
 have i4 := hi_range (n := m1) (s := t1) u4.small q4
 obtain ⟨L1, L2, L3, L4⟩ := hid4 (fun (W : World) => ilow_p (w := W) (v3 := .bool n1) (v4 := .bool s1) (v5 := .slice B l1.length b) I) (fun (W : World) => ihigh_p (w := W) (v3 := .bool n0) (v4 := .bool s0) (v5 := .slice A l0.length a) J) (fun (W : World) => ilow_p (w := W) (v3 := .bool m1) (v4 := .bool t1) (v5 := .slice D k1.length d) K) (fun (W : World) => ihigh_p (w := W) (v3 := .bool m0) (v4 := .bool t0) (v5 := .slice C k0.length c) L)
 have w1 := okA_le h1 u1.small u2.small q1 q2
 have N := okA_le h2 u3.small u4.small q3 q4
 generalize loV n0 s0 l0 = X1 at *
 generalize hiV n1 s1 l1 = X2 at *
 generalize loV m0 t0 k0 = X3 at *
 generalize hiV m1 t1 k1 = X4 at *
 have i := hid (fun (W : World) (ty : TypeId) (h : Below w.heap.size w W) => icorners4 (W := W) (ty := ty) (p := ⟨_, x1, Ke, Kf⟩) (q := ⟨_, x2, Kg, Kh⟩) (r := ⟨_, x3, Ki, Kj⟩) (s := ⟨_, x4, Kk, Kl⟩) T U V X (Y.below h) (Z.below h) (v3.below h) (v4.below h) (by dsimp only; omega) (by dsimp only; omega) (by dsimp only; omega) (by dsimp only; omega) (m := z0) (M := z1) (by dsimp only [lo4]; omega) (by dsimp only [hi4]; omega) (by omega) (by omega) e0 e1)
 dsimp only at i
 have E := boxT_of x y
 replace E := boxT_keep E bdr_
 have G := hid z.drew
 have j : Box6 _ (w.heap.size + 1 + 1) _ _ _ _ _ _ := O
 obtain ⟨H, HL⟩ := hid2 (j.below bdr_) O.lt
 clear w1 N x y O j z hz0 hz1 e0 e1
 clear u1 u2 u3 u4 Ka Kb Kc Kd I J K L T U V X r1 r2 r3 r4 Y Z v3 v4 i1 i2 i3 i4 q1 q2 q3 q4 h1 h2
 go_enter Tryz.func93, Tryz.ntmps93
 go_wp2
 generalize hgR : w.heap.size + 1 + 1 = gR at *
 have n1 : gR ≠ w.heap.size := by omega
 have o : gR ≠ w.heap.size + 1 := by omega
 have u : w.heap.size ≤ gR := by omega
 obtain ⟨N1, N2, N3⟩ := hid3 n1 o u
 clear hgR n1 o u
 go_region_held3 (fun w' => D6 w' w.heap.size (.bool n0) (.bool s0) (.slice A l0.length a) (.bool n1) (.bool s1) (.slice B l1.length b) (C6 w' (w.heap.size + 1) (.bool m0) (.bool t0) (.slice C k0.length c) (.bool m1) (.bool t1) (.slice D k1.length d)))
  (first
   | with_reducible exact E
   | with_reducible exact boxT_st6 N1.out N2.out E
   | exact boxT_keep E bal_)
  (first
   | (go_at_call 36; (first | (with_reducible refine (L1.out _).mono ?_) | (with_reducible refine (L3.out _).mono ?_)); rintro e N ⟨rfl, F⟩; replace E := boxT_keep E F; replace H := hid (H.out.below F); replace G := hid (from_ G.out F))
   | (go_at_call 37; (first | (with_reducible refine (L2.out _).mono ?_) | (with_reducible refine (L4.out _).mono ?_)); rintro e N ⟨rfl, F⟩; replace E := boxT_keep E F; replace H := hid (H.out.below F); replace G := hid (from_ G.out F))
   | (go_at_call 144; with_reducible refine (i.out _ _ G.out).mono ?_; rintro e w3 ⟨P, Q, R, S, rfl, o1, o2, F⟩; replace E := boxT_keep E F; have zl := H.out.lt; replace H := hid (H.out.below F); have v := G; replace G := hid (from_ G.out F); have g0 := H.out.cf))
 all_goals
  obtain ⟨HP, U1, U2⟩ := hid3 (H.out.put G.out N3.out (.bool rn0) (.bool rs0) (.slice P rl0.length Q) (.bool rn1) (.bool rs1) (.slice R rl1.length S)) ((o1.set6 (g := gR) (fun (h : _ ≤ gR) => by omega) (.bool rn0) (.bool rs0) (.slice P rl0.length Q) (.bool rn1) (.bool rs1) (.slice R rl1.length S)).mono (new_le v.out.size)) ((o2.set6 (g := gR) (fun (h : _ ≤ gR) => by omega) (.bool rn0) (.bool rs0) (.slice P rl0.length Q) (.bool rn1) (.bool rs1) (.slice R rl1.length S)).mono (new_le v.out.size))
  clear o1 o2
  go_wp2
  refine bodyPost_ret (res_itv rfl _ gR rfl HP.out.box) rfl ?_
  exact ⟨_, _, _, _, rfl, U1.out, U2.out, HP.out.bel⟩
theorem iJoin_good {w : World} {n1 : Bool} 
  (u1 : U64s w Z1 A a l0) (u2 : U64s w Z2 B b l1) (u3 : U64s w Z3 C c k0) (u4 : U64s w Z4 D d k1) (h1 : okA n0 s0 l0 n1 s1 l1 = true) (h2 : okA m0 t0 k0 m1 t1 k1 = true)
  (q1 : l0.length ≤ 6000) (q2 : l1.length ≤ 6000) (q3 : k0.length ≤ 6000) (q4 : k1.length ≤ 6000)
  (hz0 : z0 = min (loV n0 s0 l0) (loV m0 t0 k0)) (hz1 : z1 = max (hiV n1 s1 l1) (hiV m1 t1 k1)) (e0 : EndL z0 rn0 rs0 rl0) (e1 : EndH z1 rn1 rs1 rl1) :
  Calls Tryz.prog 49 #[.agg #[.bool n0, .bool s0, .slice A l0.length a, .bool n1, .bool s1, .slice B l1.length b], .agg #[.bool m0, .bool t0, .slice C k0.length c, .bool m1, .bool t1, .slice D k1.length d]] w fun e w' => ∃ rA ra rB rb, e = .returned (.tuple #[.agg #[.bool rn0, .bool rs0, .slice rA rl0.length ra, .bool rn1, .bool rs1, .slice rB rl1.length rb], .int .i64 0]) ∧ U64s w' (new w.heap.size) rA ra rl0 ∧ U64s w' (new w.heap.size) rB rb rl1 ∧ Below w.heap.size w w' := by
 obtain ⟨S, T, U, F⟩ := boxX w (.bool n0) (.bool s0) (.slice A l0.length a) (.bool n1) (.bool s1) (.slice B l1.length b) (.bool m0) (.bool t0) (.slice C k0.length c) (.bool m1) (.bool t1) (.slice D k1.length d) (.bool false) (.bool false) (.slice none 0 0) (.bool false) (.bool false) (.slice none 0 0) 39
 have Q := F.alloc F.size (.cells #[.bool n0, .bool s0, .slice A l0.length a, .bool n1, .bool s1, .slice B l1.length b, .bool m0, .bool t0, .slice C k0.length c, .bool m1, .bool t1, .slice D k1.length d] 39)
 have H := given_twoA (p := ⟨n0, s0, l0, n1, s1, l1⟩) (q := ⟨m0, t0, k0, m1, t1, k1⟩) (ty := 39) (u1.below F) (u2.below F) (u3.below F) (u4.below F)
 rw [show (((w.alloc (.cells #[.bool n0, .bool s0, .slice A l0.length a, .bool n1, .bool s1, .slice B l1.length b] 39)).alloc (.cells #[.bool m0, .bool t0, .slice C k0.length c, .bool m1, .bool t1, .slice D k1.length d] 39)).alloc (.cells #[.bool false, .bool false, .slice none 0 0, .bool false, .bool false, .slice none 0 0] 39)).heap.size = w.heap.size + 3 by simp] at H
 have I := ichecked_any (n := 2) (c := 2) H rfl (by simp) (by intro p hp; simp only [List.mem_cons, List.not_mem_nil, or_false] at hp; rcases hp with rfl | rfl <;> exact ⟨by dsimp only; omega, by dsimp only; omega⟩)
 rw [errAs_two, if_pos ⟨h1, h2⟩] at I
 obtain ⟨j, m, o, r, s⟩ := hid5 (S.alloc (.cells #[.bool n0, .bool s0, .slice A l0.length a, .bool n1, .bool s1, .slice B l1.length b, .bool m0, .bool t0, .slice C k0.length c, .bool m1, .bool t1, .slice D k1.length d] 39)) (T.alloc (.cells #[.bool n0, .bool s0, .slice A l0.length a, .bool n1, .bool s1, .slice B l1.length b, .bool m0, .bool t0, .slice C k0.length c, .bool m1, .bool t1, .slice D k1.length d] 39)) (U.alloc (.cells #[.bool n0, .bool s0, .slice A l0.length a, .bool n1, .bool s1, .slice B l1.length b, .bool m0, .bool t0, .slice C k0.length c, .bool m1, .bool t1, .slice D k1.length d] 39)) I Q
 obtain ⟨K, u, v, x, y, z, _, _, _, _, _, _, _⟩ := S
 obtain ⟨L, b1, b2, b3, b4, b5, _, _, _, _, _, _, _⟩ := T
 have J := hid (fun (W : World) (h : Below w.heap.size w W) => ijoin_p (u1.below h) (u2.below h) (u3.below h) (u4.below h) h1 h2 q1 q2 q3 q4 hz0 hz1 e0 e1)
 clear I Q H u1 u2 u3 u4 h1 h2 q1 q2 q3 q4 hz0 hz1 e0 e1 U F
 go_enter Tryz.func49, Tryz.ntmps49
 go_wp2_with fail
 refine r.out.mono ?_
 rintro e V ⟨rfl, E⟩
 obtain ⟨G, X⟩ := hid2 (from_ s.out E) (o.out.below E)
 clear K u v x y z L b1 b2 b3 b4 b5
 have K := (j.out.below E).all
 have L := (m.out.below E).all
 clear E
 go_wp2_with fail
 refine (J.out _ G.out).mono ?_
 rintro e w2 ⟨M, N, O, P, rfl, Y, Z, E⟩
 have z1 := X.out.lt
 have R := X.out.below E
 obtain ⟨i, U1, U2⟩ := hid3 (R.put (from_ G.out E) (by omega) (.bool rn0) (.bool rs0) (.slice M rl0.length N) (.bool rn1) (.bool rs1) (.slice O rl1.length P)) ((Y.set6 (g := w.heap.size + 2) (fun (h : V.heap.size ≤ w.heap.size + 2) => by omega) (.bool rn0) (.bool rs0) (.slice M rl0.length N) (.bool rn1) (.bool rs1) (.slice O rl1.length P)).mono (new_le G.out.size)) ((Z.set6 (g := w.heap.size + 2) (fun (h : V.heap.size ≤ w.heap.size + 2) => by omega) (.bool rn0) (.bool rs0) (.slice M rl0.length N) (.bool rn1) (.bool rs1) (.slice O rl1.length P)).mono (new_le G.out.size))
 have g0 := R.cf
 clear Y Z E z1 K L
 go_wp2
 refine bodyPost_ret (res_itv2 rfl _ (w.heap.size + 2) rfl i.out.box) rfl ?_
 exact ⟨_, _, _, _, rfl, U1.out, U2.out, i.out.bel⟩
theorem Pick.pl {p : Bool} {b : Int} {l : List Nat} {d : Int} {k : List Nat} {e : Nat} (h : Pick p b s l A c d t k B e rb rs rl rA rc) (h1 : Pl x b s l) (h2 : Pl y d t k) : Pl (bif p then x else y) rb rs rl := by
 rcases h with ⟨rfl, rfl, rfl, rfl, rfl, rfl⟩ | ⟨rfl, rfl, rfl, rfl, rfl, rfl⟩
 · exact h1
 · exact h2
theorem Pick.u64s {p : Bool} {b : Int} {l : List Nat} {d : Int} {k : List Nat} {e : Nat} (h : Pick p b s l A c d t k B e rb rs rl rA rc) {w : World} (h1 : U64s w Z A c l) (h2 : U64s w Y B e k) : U64s w old rA rc rl := by
 rcases h with ⟨rfl, rfl, rfl, rfl, rfl, rfl⟩ | ⟨rfl, rfl, rfl, rfl, rfl, rfl⟩
 · exact h1.mono (le_old _)
 · exact h2.mono (le_old _)
theorem Pick.len {p : Bool} {b : Int} {l : List Nat} {d : Int} {k : List Nat} {e : Nat} (h : Pick p b s l A c d t k B e rb rs rl rA rc) (h1 : l.length ≤ N) (h2 : k.length ≤ N) : rl.length ≤ N := by
 rcases h with ⟨rfl, rfl, rfl, rfl, rfl, rfl⟩ | ⟨rfl, rfl, rfl, rfl, rfl, rfl⟩
 · exact h1
 · exact h2
theorem Box3.new2 (w : World) (o : Obj) (a b c : Value) (t : TypeId) : Box3 ((w.alloc o).alloc (.cells #[a, b, c] t)) (w.heap.size + 1) a b c := by
 have h := Box3.new (w.alloc o) a b c t
 rw [World.size_alloc] at h
 exact h
theorem boxT_st3 {r : Nat} (e : V = (((W.setCell ⟨r, 0, none⟩ x0).setCell ⟨r, 1, none⟩ x1).setCell ⟨r, 2, none⟩ x2)) (hg : r ≠ g) (hh : r ≠ h)
  (hs : D6 W g a0 a1 a2 a3 a4 a5 (C6 W h b0 b1 b2 b3 b4 b5)) :
  D6 V g a0 a1 a2 a3 a4 a5 (C6 V h b0 b1 b2 b3 b4 b5) := by
 subst e
 obtain ⟨A, B, C, D, E, F, G, H, I, J, K, L⟩ := hs
 exact ⟨st3 A hg, st3 B hg, st3 C hg, st3 D hg, st3 E hg, st3 F hg, st3 G hh, st3 H hh, st3 I hh, st3 J hh, st3 K hh, st3 L hh⟩
theorem boxT_dr (e : V = W.drew)
  (hs : D6 W g a0 a1 a2 a3 a4 a5 (C6 W h b0 b1 b2 b3 b4 b5)) :
  D6 V g a0 a1 a2 a3 a4 a5 (C6 V h b0 b1 b2 b3 b4 b5) := by
 subst e
 exact boxT_keep hs bdr_
theorem boxT_al (e : V = W.alloc o)
  (hs : D6 W g a0 a1 a2 a3 a4 a5 (C6 W h b0 b1 b2 b3 b4 b5)) :
  D6 V g a0 a1 a2 a3 a4 a5 (C6 V h b0 b1 b2 b3 b4 b5) := by
 subst e
 exact boxT_keep hs bal_
structure Two3 (W0 V : World) (gx gy : Nat) (x0 x1 x2 y0 y1 y2 : Value) : Prop where
 bx : Box3 V gx x0 x1 x2
 by_ : Box3 V gy y0 y1 y2
 lx : W0.heap.size ≤ gx
 ly : W0.heap.size ≤ gy
 bel : Below W0.heap.size W0 V
theorem Two3.nn {w : World} {t : TypeId} (Hc : Below W0.heap.size W0 w) : Two3 W0 ((w.alloc (.cells #[x0, x1, x2] t)).alloc (.cells #[y0, y1, y2] t)) w.heap.size (w.heap.size + 1) x0 x1 x2 y0 y1 y2 :=
 ⟨(Box3.new w x0 x1 x2 t).below bal_, Box3.new2 w _ y0 y1 y2 t, Hc.size, Nat.le_succ_of_le Hc.size, from_ (from_ Hc bal_) bal_⟩
theorem Two3.nm {w : World} {t : TypeId} (Hc : Below W0.heap.size W0 w) : Two3 W0 ((w.alloc (.cells #[y0, y1, y2] t)).alloc (.cells #[x0, x1, x2] t)) (w.heap.size + 1) w.heap.size x0 x1 x2 y0 y1 y2 :=
 ⟨Box3.new2 w _ x0 x1 x2 t, (Box3.new w y0 y1 y2 t).below bal_, Nat.le_succ_of_le Hc.size, Hc.size, from_ (from_ Hc bal_) bal_⟩
theorem set3_below {w : World} (Hc : Below W0.heap.size W0 w) (hg : W0.heap.size ≤ g) (x0 x1 x2 : Value) : Below W0.heap.size W0 (((w.setCell ⟨g, 0, none⟩ x0).setCell ⟨g, 1, none⟩ x1).setCell ⟨g, 2, none⟩ x2) := Below.set3 Hc g 0 1 2 hg x0 x1 x2
theorem Two3.on {w : World} {a b c : Value} {t : TypeId} (Hc : Below W0.heap.size W0 w) (H : Box3 w g a b c) (hg : W0.heap.size ≤ g) : Two3 W0 ((((w.setCell ⟨g, 0, none⟩ x0).setCell ⟨g, 1, none⟩ x1).setCell ⟨g, 2, none⟩ x2).alloc (.cells #[y0, y1, y2] t)) g w.heap.size x0 x1 x2 y0 y1 y2 := by
 have B : (((w.setCell ⟨g, 0, none⟩ x0).setCell ⟨g, 1, none⟩ x1).setCell ⟨g, 2, none⟩ x2).heap.size = w.heap.size := by simp
 have A := Box3.new (((w.setCell ⟨g, 0, none⟩ x0).setCell ⟨g, 1, none⟩ x1).setCell ⟨g, 2, none⟩ x2) y0 y1 y2 t
 rw [B] at A
 exact ⟨(H.set3 x0 x1 x2).below bal_, A, hg, Hc.size, from_ (set3_below Hc hg x0 x1 x2) bal_⟩
theorem Two3.no {w : World} {a b c : Value} {t : TypeId} (Hc : Below W0.heap.size W0 w) (H : Box3 w g a b c) (hg : W0.heap.size ≤ g) : Two3 W0 ((((w.setCell ⟨g, 0, none⟩ y0).setCell ⟨g, 1, none⟩ y1).setCell ⟨g, 2, none⟩ y2).alloc (.cells #[x0, x1, x2] t)) w.heap.size g x0 x1 x2 y0 y1 y2 := by
 have h := Two3.on (x0 := y0) (x1 := y1) (x2 := y2) (y0 := x0) (y1 := x1) (y2 := x2) (t := t) Hc H hg
 exact ⟨h.by_, h.bx, h.ly, h.lx, h.bel⟩
theorem Two3.oo {w : World} {a b c d e f : Value} (Hc : Below W0.heap.size W0 w) (H : Box3 w g a b c) (H2 : Box3 w h d e f) (hg : W0.heap.size ≤ g) (hh : W0.heap.size ≤ h) (hn : g ≠ h) :
  Two3 W0 ((((((w.setCell ⟨g, 0, none⟩ x0).setCell ⟨g, 1, none⟩ x1).setCell ⟨g, 2, none⟩ x2).setCell ⟨h, 0, none⟩ y0).setCell ⟨h, 1, none⟩ y1).setCell ⟨h, 2, none⟩ y2) g h x0 x1 x2 y0 y1 y2 :=
 ⟨(H.set3 x0 x1 x2).oth3 h (Ne.symm hn) y0 y1 y2, (H2.oth3 g hn x0 x1 x2).set3 y0 y1 y2, hg, hh, set3_below (set3_below Hc hg x0 x1 x2) hh y0 y1 y2⟩
theorem two3_keep (hs : D3 W g a0 a1 a2 (C3 W h b0 b1 b2)) (hb : Below W.heap.size W V) : D3 V g a0 a1 a2 (C3 V h b0 b1 b2) :=
 ⟨keepC hb hs.1, keepC hb hs.2.1, keepC hb hs.2.2.1, keepC hb hs.2.2.2.1, keepC hb hs.2.2.2.2.1, keepC hb hs.2.2.2.2.2⟩
theorem two3_st6 {r : Nat} (e : V = ((((((W.setCell ⟨r, 0, none⟩ x0).setCell ⟨r, 1, none⟩ x1).setCell ⟨r, 2, none⟩ x2).setCell ⟨r, 3, none⟩ x3).setCell ⟨r, 4, none⟩ x4).setCell ⟨r, 5, none⟩ x5)) (hg : r ≠ g) (hh : r ≠ h) (hs : D3 W g a0 a1 a2 (C3 W h b0 b1 b2)) : D3 V g a0 a1 a2 (C3 V h b0 b1 b2) := by
 subst e
 exact ⟨st6 hs.1 hg, st6 hs.2.1 hg, st6 hs.2.2.1 hg, st6 hs.2.2.2.1 hh, st6 hs.2.2.2.2.1 hh, st6 hs.2.2.2.2.2 hh⟩
theorem imeet_p {w : World} {n1 : Bool} 
  (u1 : U64s w Z1 A a l0) (u2 : U64s w Z2 B b l1) (u3 : U64s w Z3 C c k0) (u4 : U64s w Z4 D d k1) (h1 : okA n0 s0 l0 n1 s1 l1 = true) (h2 : okA m0 t0 k0 m1 t1 k1 = true)
  (q1 : l0.length ≤ 6000) (q2 : l1.length ≤ 6000) (q3 : k0.length ≤ 6000) (q4 : k1.length ≤ 6000)
  (hz0 : z0 = max (loV n0 s0 l0) (loV m0 t0 k0)) (hz1 : z1 = min (hiV n1 s1 l1) (hiV m1 t1 k1)) (e0 : EndL z0 rn0 rs0 rl0) (e1 : EndH z1 rn1 rs1 rl1) {g : Bool} (hg : decide (z0 ≤ z1) = g) :
  Calls Tryz.prog 83 #[.agg #[.bool n0, .bool s0, .slice A l0.length a, .bool n1, .bool s1, .slice B l1.length b], .agg #[.bool m0, .bool t0, .slice C k0.length c, .bool m1, .bool t1, .slice D k1.length d]] w fun e w' => (g = true → ∃ rA ra rB rb, e = .returned (.tuple #[.agg #[.bool rn0, .bool rs0, .slice rA rl0.length ra, .bool rn1, .bool rs1, .slice rB rl1.length rb], .bool true]) ∧ U64s w' (new w.heap.size) rA ra rl0 ∧ U64s w' (new w.heap.size) rB rb rl1) ∧ (g = false → e = .returned (.tuple #[.agg #[.bool false, .bool false, .slice none 0 0, .bool false, .bool false, .slice none 0 0], .bool false])) ∧ Below w.heap.size w w' := by
 obtain ⟨bA, bB, bR, Kj⟩ := boxX w (.bool n0) (.bool s0) (.slice A l0.length a) (.bool n1) (.bool s1) (.slice B l1.length b) (.bool m0) (.bool t0) (.slice C k0.length c) (.bool m1) (.bool t1) (.slice D k1.length d) (.bool false) (.bool false) (.slice none 0 0) (.bool false) (.bool false) (.slice none 0 0) 39
 obtain ⟨Kk, Kl⟩ := okA_ends h1
 obtain ⟨Km, Kn⟩ := okA_ends h2
 obtain ⟨x1, Kt, Kv, Kw, Kx, o⟩ := Plc.ex (-1) n0 s0 l0 A a
 obtain ⟨x2, Ky, Kz, KA, KB, r⟩ := Plc.ex 1 n1 s1 l1 B b
 obtain ⟨x3, KC, KD, KE, KF, u⟩ := Plc.ex (-1) m0 t0 k0 C c
 obtain ⟨x4, KG, KH, KI, KJ, v⟩ := Plc.ex 1 m1 t1 k1 D d
 have p1 := o.lo Kk u1.small q1
 have p2 := r.hi Kl u2.small q2
 have p3 := u.lo Km u3.small q3
 have p4 := v.hi Kn u4.small q4
 have r1 := o.len
 have r2 := r.len
 have r3 := u.len
 have r4 := v.len
 have Z := o.u64s u1
 have i := r.u64s u2
 have v3 := u.u64s u3
 have v4 := v.u64s u4
 have i1 := lo_range (n := n0) (s := s0) u1.small q1
 have i2 := hi_range (n := n1) (s := s1) u2.small q2
 have i3 := lo_range (n := m0) (s := t0) u3.small q3
 have i4 := hi_range (n := m1) (s := t1) u4.small q4
 obtain ⟨L1, L2, L3, L4⟩ := hid4 (fun (W : World) => ilow_p (w := W) (v3 := .bool n1) (v4 := .bool s1) (v5 := .slice B l1.length b) o) (fun (W : World) => ihigh_p (w := W) (v3 := .bool n0) (v4 := .bool s0) (v5 := .slice A l0.length a) r) (fun (W : World) => ilow_p (w := W) (v3 := .bool m1) (v4 := .bool t1) (v5 := .slice D k1.length d) u) (fun (W : World) => ihigh_p (w := W) (v3 := .bool m0) (v4 := .bool t0) (v5 := .slice C k0.length c) v)
 generalize loV n0 s0 l0 = X1 at *
 generalize hiV n1 s1 l1 = X2 at *
 generalize loV m0 t0 k0 = X3 at *
 generalize hiV m1 t1 k1 = X4 at *
 obtain ⟨y1, M, O, Kc, Kd, x⟩ := Pick.ex (decide (X3 ≤ X1)) x1 Kt Kv Kw Kx x3 KC KD KE KF
 obtain ⟨y2, P, Q, Ke, Kf, y⟩ := Pick.ex (decide (X2 ≤ X4)) x2 Ky Kz KA KB x4 KG KH KI KJ
 have G := boxT_of bA bB
 have R := Kj
 have Kg : Box6 _ (w.heap.size + 1 + 1) _ _ _ _ _ _ := bR
 have I := hid Kg
 generalize hW0 : (((w.alloc (.cells #[.bool n0, .bool s0, .slice A l0.length a, .bool n1, .bool s1, .slice B l1.length b] 39)).alloc (.cells #[.bool m0, .bool t0, .slice C k0.length c, .bool m1, .bool t1, .slice D k1.length d] 39)).alloc (.cells #[.bool false, .bool false, .slice none 0 0, .bool false, .bool false, .slice none 0 0] 39)) = W0 at *
 have Ko : w.heap.size + 3 ≤ W0.heap.size := by rw [← hW0]; simp
 replace Z := Z.below R
 replace i := i.below R
 replace v3 := v3.below R
 replace v4 := v4.below R
 obtain ⟨z, G2⟩ := hid2 (fun (W : World) (h : Below W0.heap.size W0 W) => igreatest_p p1 p3 (Z.below h) (v3.below h) (by omega) (by omega) x) (fun (W : World) (h : Below W0.heap.size W0 W) => ileast_p p2 p4 (i.below h) (v4.below h) (by omega) (by omega) y)
 have K := x.pl p1 p3
 have L := y.pl p2 p4
 rw [show (bif decide (X3 ≤ X1) then X1 else X3) = z0 by rw [hz0]; by_cases h : X3 ≤ X1 <;> simp [h] <;> omega] at K
 rw [show (bif decide (X2 ≤ X4) then X2 else X4) = z1 by rw [hz1]; by_cases h : X2 ≤ X4 <;> simp [h] <;> omega] at L
 have Ka := x.u64s Z v3
 have Kb := y.u64s i v4
 have Kp := x.len (N := 6000) (by omega) (by omega)
 have Kq := y.len (N := 6000) (by omega) (by omega)
 obtain ⟨q, hq⟩ : ∃ q, cmpP y1 y2 z0 z1 = q := ⟨_, rfl⟩
 have Kh := (cmpP_le K L).1
 rw [hq] at Kh
 have CM := hid (fun (W : World) (h : Below W0.heap.size W0 W) => icompare_p K L (Ka.below h) (Kb.below h) (by omega) (by omega) hq)
 obtain rfl : M = rs0 := K.uniq.2.1.trans e0.2.1.symm
 obtain rfl : O = rl0 := K.uniq.2.2.trans e0.2.2.symm
 obtain rfl : P = rs1 := L.uniq.2.1.trans e1.2.1.symm
 obtain rfl : Q = rl1 := L.uniq.2.2.trans e1.2.2.symm
 obtain ⟨B1, B2⟩ := hid2 (fun (W : World) (h : Below W0.heap.size W0 W) => ibound_p K ((K.nlo (by omega)).trans e0.1.symm) (Ka.below h) (by omega)) (fun (W : World) (h : Below W0.heap.size W0 W) => ibound_p L ((L.nhi (by omega)).trans e1.1.symm) (Kb.below h) (by omega))
 have hd : decide (0 < q) = !g := by
  rw [← hg]
  by_cases h : z0 ≤ z1
  · rw [decide_eq_true h, decide_eq_false (by omega)]; rfl
  · rw [decide_eq_false h, decide_eq_true (by omega)]; rfl
 have Hd := hid hd
 have F := hid (Below.refl W0.heap.size W0).drew
 have j := G
 have m := hid (Below.refl W0.heap.size W0)
 replace G := boxT_keep G bdr_
 obtain ⟨HW, HB⟩ := hid2 hW0 R
 clear u1 u2 u3 u4 Kk Kl Km Kn o r u v p1 p2 p3 p4 r1 r2 r3 r4 Z i v3 v4 i1 i2 i3 i4 q1 q2 q3 q4 h1 h2 x y K L Ka Kb Kp Kq hq Kh hd hg hz0 hz1 e0 e1 bA bB bR Kg Kj R hW0
 go_enter Tryz.func83, Tryz.ntmps83
 go_upto_region 1 with fail
 try simp only [HW.out]
 clear HW
 go_cut [6, 7] (fun s6 s7 wx => ∃ gx gy : Nat, s6 = .pointer (some ⟨gx, 0, none⟩) ∧ s7 = .pointer (some ⟨gy, 0, none⟩) ∧ Two3 W0 wx gx gy (.int .i64 y1) (.bool M) (.slice Kc O.length Kd) (.int .i64 y2) (.bool P) (.slice Ke Q.length Kf))
 case first =>
  first | go_region_held3 (fun w' => D6 w' w.heap.size (.bool n0) (.bool s0) (.slice A l0.length a) (.bool n1) (.bool s1) (.slice B l1.length b) (C6 w' (w.heap.size + 1) (.bool m0) (.bool t0) (.slice C k0.length c) (.bool m1) (.bool t1) (.slice D k1.length d)))
   ((repeat' (first | with_reducible apply boxT_al rfl | with_reducible apply boxT_st3 rfl)) <;> (first | with_reducible exact G | (with_reducible apply boxT_dr rfl; (repeat' (with_reducible apply boxT_al rfl)); with_reducible exact j) | omega))
   (((first
     | (go_at_call 36; (first | (with_reducible refine (L1.out _).mono ?_)  | (with_reducible refine (L3.out _).mono ?_)); rintro e w2 ⟨rfl, E⟩)
     | (go_at_call 37; (first | (with_reducible refine (L2.out _).mono ?_)  | (with_reducible refine (L4.out _).mono ?_)); rintro e w2 ⟨rfl, E⟩)
     | (go_at_call 136; (first | (with_reducible refine (z.out _ F.out).mono ?_)  | (with_reducible refine (z.out _ (from_ F.out bal_)).mono ?_)  | (with_reducible refine (z.out _ (from_ (from_ F.out bal_) bal_)).mono ?_)); rintro e w2 ⟨rfl, E⟩)
     | (go_at_call 137; (first | (with_reducible refine (G2.out _ F.out).mono ?_)  | (with_reducible refine (G2.out _ (from_ F.out bal_)).mono ?_)  | (with_reducible refine (G2.out _ (from_ (from_ F.out bal_) bal_)).mono ?_)); rintro e w2 ⟨rfl, E⟩)); (first | (with_reducible have S := boxT_keep G E; have T := hid (from_ F.out E); (try replace J := hid (J.out.below E)); (try replace U := hid (U.out.below E))) | (with_reducible have z1 := F.out.size; have S := boxT_keep (boxT_keep G bal_) E; have T := hid (from_ (from_ F.out bal_) E); (first | (have Ki := Nat.ne_of_lt J.out.lt; have Kr := Ne.symm Ki; have U := hid ((Box3.new _ (.int .i64 0) (.bool false) (.slice none 0 0) 93).below E); replace J := hid ((J.out.below bal_).below E)) | (have J := hid ((Box3.new _ (.int .i64 0) (.bool false) (.slice none 0 0) 93).below E)))) | (with_reducible have z1 := F.out.size; have S := boxT_keep (boxT_keep (boxT_keep G bal_) bal_) E; have T := hid (from_ (from_ (from_ F.out bal_) bal_) E); (have J := hid (((Box3.new _ (.int .i64 0) (.bool false) (.slice none 0 0) 93).below bal_).below E)); (have U := hid ((Box3.new2 _ _ (.int .i64 0) (.bool false) (.slice none 0 0) 93).below E))) | (with_reducible have z1 := m.out.size; have S := boxT_keep (boxT_keep (boxT_keep j bal_) bdr_) E; have T := hid (from_ (from_ (from_ m.out bal_) bdr_) E); have J := hid (((Box3.new _ (.int .i64 0) (.bool false) (.slice none 0 0) 93).below bdr_).below E)) | (with_reducible have z1 := m.out.size; have S := boxT_keep (boxT_keep (boxT_keep (boxT_keep j bal_) bal_) bdr_) E; have T := hid (from_ (from_ (from_ (from_ m.out bal_) bal_) bdr_) E); (have J := hid ((((Box3.new _ (.int .i64 0) (.bool false) (.slice none 0 0) 93).below bal_).below bdr_).below E)); (have U := hid (((Box3.new2 _ _ (.int .i64 0) (.bool false) (.slice none 0 0) 93).below bdr_).below E)))); replace G := S; replace F := T; clear S T; (try clear x0 x1 x2 x3 x4 x5); (try clear x6 x7 x8 x9 KK KL); (try have Ks := Nat.ne_of_lt J.out.lt); (try have KQ := Ne.symm Ks); (try obtain ⟨x0, x1, x2, x3, x4, x5, _⟩ := id J.out); (try obtain ⟨x6, x7, x8, x9, KK, KL, _⟩ := id U.out); have lz := F.out.size; clear E)) | fail
  all_goals
   clear L1 L2 L3 L4 z G2 CM B1 B2 G j
   go_wp2_with fail
   go_meet
   refine ⟨_, _, rfl, rfl, ?_⟩
   (first | (with_reducible apply Two3.nn) | (with_reducible apply Two3.nm) | (with_reducible apply Two3.oo) | (with_reducible apply Two3.on) | (with_reducible apply Two3.no)) <;> (first | with_reducible exact F.out | with_reducible exact J.out | with_reducible exact U.out | with_reducible exact Ki | with_reducible exact Kr | omega)
 case rest =>
  obtain ⟨gx, gy, rfl, rfl, H⟩ := hcut
  clear G j F m L1 L2 L3 L4 z G2
  have lx := H.lx
  have ly := H.ly
  have F := hid H.bel
  have G := And.intro (H.bx.c0) (And.intro H.bx.c1 (And.intro H.bx.c2 (And.intro H.by_.c0 (And.intro H.by_.c1 H.by_.c2))))
  have Hs := hid (show D3 wc gx (.int .i64 y1) (.bool M) (.slice Kc O.length Kd) (C3 wc gy (.int .i64 y2) (.bool P) (.slice Ke Q.length Kf)) from ⟨H.bx.c0, H.bx.c1, H.bx.c2, H.by_.c0, H.by_.c1, H.by_.c2⟩)
  obtain ⟨x0, KM, KN, y0, KO, KP⟩ := G
  clear H
  go_wp2_with fail
  refine (CM.out _ F.out).mono ?_
  rintro e w1 ⟨rfl, hc⟩
  clear x0 KM KN y0 KO KP
  replace Hs := hid (two3_keep Hs.out hc)
  replace F := hid (from_ F.out hc)
  replace I := hid (I.out.below (from_ (Below.refl _ _) F.out))
  have hd := Hd.out
  clear CM hc Hd
  cases g with
  | false =>
    have V := hid (I.out.put (from_ HB.out F.out) (Nat.le_trans (Nat.le_succ _) (Nat.le_succ _)) (.bool false) (.bool false) (.slice none 0 0) (.bool false) (.bool false) (.slice none 0 0))
    obtain ⟨g0, K, L, g3, g4, g5, f0, f1, f2, f3, f4, f5, _⟩ := id I.out
    go_wp2
    refine bodyPost_ret (res_itv2 rfl _ (w.heap.size + 1 + 1) rfl V.out.box) rfl ?_
    exact ⟨rfl, V.out.bel⟩
  | true =>
    go_wp2
    generalize hgR : w.heap.size + 1 + 1 = gR at *
    have n1 : gR ≠ gx := by omega
    have n2 : gR ≠ gy := by omega
    have n3 : w.heap.size ≤ gR := by omega
    obtain ⟨N1, N2, N3⟩ := hid3 n1 n2 n3
    clear hgR n1 n2 n3 lx ly Ko hd
    have G := two3_keep Hs.out bdr_
    replace I := hid (I.out.below bdr_)
    replace F := hid (from_ F.out bdr_)
    clear Hs
    first | go_region_held3 (fun w' => D3 w' gx (.int .i64 y1) (.bool M) (.slice Kc O.length Kd) (C3 w' gy (.int .i64 y2) (.bool P) (.slice Ke Q.length Kf)))
     ((first | with_reducible exact G | ((with_reducible apply two3_st6 rfl) <;> (first | with_reducible exact G | exact N1.out | exact N2.out))))
     (first
      | (go_at_call 138; with_reducible refine (B1.out _ F.out).mono ?_; rintro e w2 ⟨A1, c1, rfl, X, E⟩; replace X := X.mono (Y := new (gR + 1)) (new_le (Nat.succ_le_of_lt I.out.lt)); replace G := two3_keep G E; replace I := hid (I.out.below E); replace F := hid (from_ F.out E))
      | (go_at_call 138; with_reducible refine (B2.out _ F.out).mono ?_; rintro e w2 ⟨A2, c2, rfl, o2, E⟩; replace o2 := o2.mono (Y := new (gR + 1)) (new_le (Nat.succ_le_of_lt I.out.lt)); replace X := X.below E; replace G := two3_keep G E; replace I := hid (I.out.below E); replace F := hid (from_ F.out E); have g0 := I.out.cf)) | fail
    all_goals
     obtain ⟨V, U1, U2⟩ := hid3 (I.out.put (from_ HB.out F.out) N3.out (.bool rn0) (.bool M) (.slice A1 O.length c1) (.bool rn1) (.bool P) (.slice A2 Q.length c2)) ((X.set6 (g := gR) (fun (h : gR + 1 ≤ gR) => by omega) (.bool rn0) (.bool M) (.slice A1 O.length c1) (.bool rn1) (.bool P) (.slice A2 Q.length c2)).mono (new_le (show w.heap.size ≤ gR + 1 from Nat.le_succ_of_le N3.out))) ((o2.set6 (g := gR) (fun (h : gR + 1 ≤ gR) => by omega) (.bool rn0) (.bool M) (.slice A1 O.length c1) (.bool rn1) (.bool P) (.slice A2 Q.length c2)).mono (new_le (show w.heap.size ≤ gR + 1 from Nat.le_succ_of_le N3.out)))
     clear X o2
     go_wp2
     refine bodyPost_ret (res_itv2 rfl _ gR rfl V.out.box) rfl ?_
     first | exact ⟨⟨_, _, _, _, rfl, U1.out, U2.out⟩, V.out.bel⟩ | (simp only [true_implies, Bool.true_eq_false, Bool.false_eq_true, false_implies, true_and]; exact ⟨⟨_, _, _, _, rfl, U1.out, U2.out⟩, V.out.bel⟩)
@[irreducible] def wN (N : Nat) : Int := ((18446744073709551616 ^ N : Nat) : Int)
theorem wN_cast (N : Nat) : wN N = ((18446744073709551616 ^ N : Nat) : Int) := by unfold wN; rfl
theorem wN_one : wN 1 = 18446744073709551616 := by unfold wN; rfl
theorem wN_pos (N : Nat) : 0 < wN N := by unfold wN; exact Int.natCast_pos.2 (Nat.pow_pos (by decide))
theorem wN_mono (h : N ≤ M) : wN N ≤ wN M := by
 rw [wN_cast, wN_cast]
 exact Int.ofNat_le.2 (Nat.pow_le_pow_right (by decide) h)
theorem wN_mul (N M : Nat) : wN N * wN M = wN (N + M) := by unfold wN; rw [Nat.pow_add]; exact (Int.natCast_mul _ _).symm
theorem wN_big : wN 6400 = bigZ := by unfold wN bigZ; rfl
theorem wN_le (h : N ≤ 6400) : wN N ≤ bigZ := by rw [← wN_big]; exact wN_mono h
theorem wN_two (N : Nat) : wN N + wN N ≤ wN (N + 1) := by
 rw [← wN_mul]
 have A : wN 1 = 18446744073709551616 := wN_one
 have B := wN_pos N
 rw [A]
 omega
theorem Pl.ext {b : Int} {l : List Nat} (h : Pl x b s l) (hl : l.length ≤ N) : Ext bigZ (wN N) x := by
 rcases h with ⟨rfl, ⟨rfl, rfl⟩, _, _⟩ | ⟨_, _, _, h⟩ | ⟨_, _, _, h⟩
 · right; right
   have A := val_lt (small_limbs x.natAbs)
   rw [val_limbs] at A
   have B : x.natAbs < 18446744073709551616 ^ N := Nat.lt_of_lt_of_le A (Nat.pow_le_pow_right (by decide) hl)
   have C : (x.natAbs : Int) < wN N := by rw [wN_cast]; exact Int.ofNat_lt.2 B
   omega
 · exact .inl h
 · exact .inr (.inl h)
theorem Pl.len_of (h : Pl z e r m) (hz : Ext bigZ (wN N) z) : m.length ≤ N := by
 rcases h with ⟨rfl, ⟨rfl, rfl⟩, h1, h2⟩ | ⟨_, _, rfl, h⟩ | ⟨_, _, rfl, h⟩
 · refine len_limbs_le ?_
   have A : -wN N < z ∧ z < wN N := by
    unfold Ext at hz
    omega
   rw [wN_cast] at A
   have B : (z.natAbs : Int) < ((18446744073709551616 ^ N : Nat) : Int) := by omega
   exact Int.ofNat_lt.1 B
 · simp
 · simp
theorem Ext.range (h : Ext bigZ (wN N) x) (hN : N ≤ 6400) : -bigZ ≤ x ∧ x ≤ bigZ := by
 have A := wN_le hN
 have B := bigZ_pos
 unfold Ext at h
 omega
theorem Ext.up (h : Ext bigZ (wN N) x) (hN : N ≤ M) : Ext bigZ (wN M) x := by
 have A := wN_mono hN
 unfold Ext at *
 omega
theorem ext_plus (hx : Ext bigZ (wN N) x) (hy : Ext bigZ (wN N) y) : Ext bigZ (wN (N + 1)) (plusE bigZ x y) := by
 have A := wN_two N
 unfold plusE
 unfold Ext at *
 split
 · simp
 · split
   · simp
   · omega
theorem ext_times (hx : Ext bigZ (wN N) x) (hy : Ext bigZ (wN M) y) : Ext bigZ (wN (N + M)) (timesE bigZ x y) := by
 have G := wN_pos (N + M)
 unfold timesE
 split
 · right; right; omega
 · split
   · split
     · simp [Ext]
     · simp [Ext]
   · rename_i h1 h2
     have A : -wN N < x ∧ x < wN N := by unfold Ext at hx; omega
     have B : -wN M < y ∧ y < wN M := by unfold Ext at hy; omega
     right; right
     have C : (x * y).natAbs = x.natAbs * y.natAbs := Int.natAbs_mul x y
     have D : x.natAbs < 18446744073709551616 ^ N := by rw [wN_cast] at A; omega
     have E : y.natAbs < 18446744073709551616 ^ M := by rw [wN_cast] at B; omega
     have F : x.natAbs * y.natAbs < 18446744073709551616 ^ (N + M) := by
      rw [Nat.pow_add]
      exact Nat.mul_lt_mul_of_lt_of_lt D E
     have H : ((x * y).natAbs : Int) < wN (N + M) := by rw [wN_cast, C]; exact Int.ofNat_lt.2 F
     omega
structure IvN (N : Nat) (x y : Int) : Prop where
 lo : Ext bigZ (wN N) x
 hi : Ext bigZ (wN N) y
 le : x ≤ y
 nlo : x < bigZ
 nhi : -bigZ < y
theorem IvN.up (h : IvN N x y) (hN : N ≤ M) : IvN M x y := ⟨h.lo.up hN, h.hi.up hN, h.le, h.nlo, h.nhi⟩
theorem ivn_neg (h : IvN N x y) : IvN N (-y) (-x) := ⟨h.hi.neg, h.lo.neg, by have := h.le; omega, by have := h.nhi; omega, by have := h.nlo; omega⟩
theorem ivn_plus {t : Int} (h : IvN N x y) (g : IvN N z t) (hN : N ≤ 6000) : IvN (N + 1) (plusE bigZ x z) (plusE bigZ y t) := by
 obtain ⟨A, B, I, J, K⟩ := h
 obtain ⟨C, D, L, M, O⟩ := g
 have E := wN_two N
 have F := wN_le (show N + 1 ≤ 6400 by omega)
 have G := bigZ_pos
 have H := wN_pos N
 refine ⟨ext_plus A C, ext_plus B D, ?_, ?_, ?_⟩
 all_goals
  unfold plusE
  unfold Ext at *
  split <;> (try split) <;> (try split) <;> (try split) <;> omega
theorem timesE_fin {a b : Int} (ha : -bigZ < a ∧ a < bigZ) (hb : -bigZ < b ∧ b < bigZ) : timesE bigZ a b = a * b := by
 unfold timesE
 split
 · rename_i h
   rcases h with rfl | rfl <;> simp
 · rw [if_neg (by omega)]
theorem timesE_np {a b : Int} (h : (a ≤ 0 ∧ 0 ≤ b) ∨ (0 ≤ a ∧ b ≤ 0)) : timesE bigZ a b ≤ 0 := by
 have A := bigZ_pos
 unfold timesE
 split
 · omega
 · split
   · rw [if_neg (by omega)]; omega
   · rcases h with h | h
     · exact Int.mul_nonpos_of_nonpos_of_nonneg h.1 h.2
     · exact Int.mul_nonpos_of_nonneg_of_nonpos h.1 h.2
theorem timesE_nn {a b : Int} (h : (0 ≤ a ∧ 0 ≤ b) ∨ (a ≤ 0 ∧ b ≤ 0)) : 0 ≤ timesE bigZ a b := by
 have A := bigZ_pos
 unfold timesE
 split
 · omega
 · split
   · rw [if_pos (by omega)]; omega
   · rcases h with h | h
     · exact Int.mul_nonneg h.1 h.2
     · exact Int.mul_nonneg_of_nonpos_of_nonpos h.1 h.2
theorem timesE_small {a b : Int} (ha : Ext bigZ (wN N) a) (hb : Ext bigZ (wN M) b) (hN : N + M ≤ 6400) (h1 : -bigZ < a ∧ a < bigZ) (h2 : -bigZ < b ∧ b < bigZ) : -bigZ < timesE bigZ a b ∧ timesE bigZ a b < bigZ := by
 have G := wN_le hN
 have H := wN_mul N M
 have I := wN_pos N
 have J := wN_pos M
 have A : -wN N < a ∧ a < wN N := by unfold Ext at ha; omega
 have B : -wN M < b ∧ b < wN M := by unfold Ext at hb; omega
 rw [timesE_fin h1 h2]
 have C : (a * b).natAbs = a.natAbs * b.natAbs := Int.natAbs_mul a b
 have D : a.natAbs < 18446744073709551616 ^ N := by rw [wN_cast] at A; omega
 have E : b.natAbs < 18446744073709551616 ^ M := by rw [wN_cast] at B; omega
 have F : a.natAbs * b.natAbs < 18446744073709551616 ^ (N + M) := by
  rw [Nat.pow_add]
  exact Nat.mul_lt_mul_of_lt_of_lt D E
 have K : ((a * b).natAbs : Int) < wN (N + M) := by rw [wN_cast, C]; exact Int.ofNat_lt.2 F
 omega
theorem ext_min {a b : Int} (ha : Ext bigZ (wN N) a) (hb : Ext bigZ (wN N) b) : Ext bigZ (wN N) (min a b) := by
 rcases Int.le_total a b with h | h
 · rw [Int.min_eq_left h]; exact ha
 · rw [Int.min_eq_right h]; exact hb
theorem ext_max {a b : Int} (ha : Ext bigZ (wN N) a) (hb : Ext bigZ (wN N) b) : Ext bigZ (wN N) (max a b) := by
 rcases Int.le_total a b with h | h
 · rw [Int.max_eq_right h]; exact hb
 · rw [Int.max_eq_left h]; exact ha
def mulLo (x y z t : Int) : Int := lo4 (timesE bigZ x z) (timesE bigZ x t) (timesE bigZ y z) (timesE bigZ y t)
def mulHi (x y z t : Int) : Int := hi4 (timesE bigZ x z) (timesE bigZ x t) (timesE bigZ y z) (timesE bigZ y t)
theorem ivn_times {t : Int} (h : IvN N x y) (g : IvN M z t) (hN : N + M ≤ 6400) : IvN (N + M) (mulLo x y z t) (mulHi x y z t) := by
 obtain ⟨A, B, K, E, F⟩ := h
 obtain ⟨C, D, L, G, H⟩ := g
 have J := bigZ_pos
 refine ⟨?_, ?_, ?_, ?_, ?_⟩
 · exact ext_min (ext_min (ext_times A C) (ext_times A D)) (ext_min (ext_times B C) (ext_times B D))
 · exact ext_max (ext_max (ext_times A C) (ext_times A D)) (ext_max (ext_times B C) (ext_times B D))
 · unfold mulLo mulHi lo4 hi4; omega
 · unfold mulLo lo4
   have I : timesE bigZ x z < bigZ ∨ timesE bigZ x t < bigZ ∨ timesE bigZ y t < bigZ := by
    by_cases hx : 0 ≤ x
    · by_cases hz : 0 ≤ z
      · exact .inl (timesE_small A C hN ⟨by omega, E⟩ ⟨by omega, G⟩).2
      · have := timesE_np (a := x) (b := z) (.inr ⟨hx, by omega⟩)
        exact .inl (by omega)
    · by_cases ht : 0 ≤ t
      · have := timesE_np (a := x) (b := t) (.inl ⟨by omega, ht⟩)
        exact .inr (.inl (by omega))
      · by_cases hy : 0 ≤ y
        · have := timesE_np (a := y) (b := t) (.inr ⟨hy, by omega⟩)
          exact .inr (.inr (by omega))
        · exact .inr (.inr (timesE_small B D hN ⟨F, by omega⟩ ⟨H, by omega⟩).2)
   omega
 · unfold mulHi hi4
   have I : -bigZ < timesE bigZ x z ∨ -bigZ < timesE bigZ y z ∨ -bigZ < timesE bigZ x t ∨ -bigZ < timesE bigZ y t := by
    by_cases hx : 0 ≤ x
    · by_cases ht : 0 ≤ t
      · have := timesE_nn (a := x) (b := t) (.inl ⟨hx, ht⟩)
        exact .inr (.inr (.inl (by omega)))
      · exact .inr (.inr (.inl (timesE_small A D hN ⟨by omega, E⟩ ⟨H, by omega⟩).1))
    · by_cases hz : 0 ≤ z
      · by_cases hy : 0 ≤ y
        · have := timesE_nn (a := y) (b := z) (.inl ⟨hy, hz⟩)
          exact .inr (.inl (by omega))
        · exact .inr (.inl (timesE_small B C hN ⟨F, by omega⟩ ⟨by omega, G⟩).1)
      · have := timesE_nn (a := x) (b := z) (.inr ⟨by omega, by omega⟩)
        exact .inl (by omega)
   omega
theorem Pl.fin (h : Pl z e r m) (hz : -bigZ < z ∧ z < bigZ) : e = 0 ∧ Nm z r m := by
 rcases h with ⟨rfl, n, _⟩ | ⟨_, _, _, h⟩ | ⟨_, _, _, h⟩
 · exact ⟨rfl, n⟩
 · omega
 · omega
theorem Pl.top (h : Pl z e r m) (hz : z = bigZ) : e = 1 ∧ r = false ∧ m = [] := by
 have A := bigZ_pos
 rcases h with ⟨_, _, h1, h2⟩ | ⟨h1, h2, h3, _⟩ | ⟨_, _, _, h⟩
 · omega
 · exact ⟨h1, h2, h3⟩
 · omega
theorem Pl.bot (h : Pl z e r m) (hz : z = -bigZ) : e = -1 ∧ r = false ∧ m = [] := by
 have A := bigZ_pos
 rcases h with ⟨_, _, h1, h2⟩ | ⟨_, _, _, h⟩ | ⟨h1, h2, h3, _⟩
 · omega
 · omega
 · exact ⟨h1, h2, h3⟩
theorem boxD_of (h1 : Box3 W g a0 a1 a2) (h2 : Box3 W h b0 b1 b2) :
 D3 W g a0 a1 a2 (C3 W h b0 b1 b2) := ⟨h1.c0, h1.c1, h1.c2, h2.c0, h2.c1, h2.c2⟩
theorem boxD_keep (hs : D3 W g a0 a1 a2 (C3 W h b0 b1 b2)) (hb : Below W.heap.size W W') :
  D3 W' g a0 a1 a2 (C3 W' h b0 b1 b2) :=
 ⟨keepC hb hs.1, keepC hb hs.2.1, keepC hb hs.2.2.1, keepC hb hs.2.2.2.1, keepC hb hs.2.2.2.2.1, keepC hb hs.2.2.2.2.2⟩
theorem ext_sum (hx : Ext bigZ (wN 6200) x) (hy : Ext bigZ (wN 6200) y) (fx : -bigZ < x ∧ x < bigZ) (fy : -bigZ < y ∧ y < bigZ) : -bigZ < x + y ∧ x + y < bigZ := by
 have A := wN_two 6200
 have B := wN_le (show 6200 + 1 ≤ 6400 by omega)
 have C := wN_pos 6200
 unfold Ext at hx hy
 omega
theorem iplus_p {w : World} {b d : Int} {l k : List Nat} (h1 : Pl x b s l) (h2 : Pl y d t k) (h3 : Pl z e r m) (hz : plusE bigZ x y = z) (hno : ¬ (x = bigZ ∧ y = -bigZ) ∧ ¬ (x = -bigZ ∧ y = bigZ)) (hu : U64s w Z A c l) (hv : U64s w Y B f k) (hl : l.length ≤ 6200) (hl2 : k.length ≤ 6200) :
  Calls Tryz.prog 147 #[.agg #[.int .i64 b, .bool s, .slice A l.length c], .agg #[.int .i64 d, .bool t, .slice B k.length f]] w fun e' w' => ∃ A' c', e' = .returned (.agg #[.int .i64 e, .bool r, .slice A' m.length c']) ∧ U64s w' (new w.heap.size) A' c' m ∧ Below w.heap.size w w' := by
 have Kc := bigZ_pos
 have ex := h1.ext hl
 have O := h2.ext hl2
 rcases h1 with ⟨rfl, n1, r1, r2⟩ | ⟨rfl, rfl, rfl, hx⟩ | ⟨rfl, rfl, rfl, hx⟩
 · rcases h2 with ⟨rfl, n2, g1, g2⟩ | ⟨rfl, rfl, rfl, hy⟩ | ⟨rfl, rfl, rfl, hy⟩
   · have ez : x + y = z := by
      rw [← hz]
      unfold plusE
      rw [if_neg (by omega), if_neg (by omega)]
     obtain ⟨rfl, n3⟩ := h3.fin (by rw [← ez]; exact ext_sum ex O ⟨r1, r2⟩ ⟨g1, g2⟩)
     clear hz hno ex O h3
     obtain ⟨E, F, G, D⟩ := boxS w (.int .i64 0) (.bool s) (.slice A l.length c) (.int .i64 0) (.bool t) (.slice B k.length f) (.int .i64 0) (.bool false) (.slice none 0 0) 93
     obtain ⟨L, M, J, K⟩ := hid4 E F G D
     obtain ⟨P, Q, R, _, _, _, _⟩ := E
     obtain ⟨S, T, U, _, _, _, _⟩ := F
     have CA := hid (wadd_n n1 n2 n3 ez (by omega) (by omega) (hu.below D) (hv.below D))
     clear hu hv hl hl2 n1 n2 n3 G D
     go_enter Tryz.func147, Tryz.ntmps147
     go_wp2_with fail
     refine CA.out.mono ?_
     rintro e' v ⟨Av, cv, rfl, u1, j⟩
     have Ka := from_ K.out j
     have Kb := J.out.below j
     have u := Kb.put Ka (by omega) (.int .i64 0) (.bool r) (.slice Av m.length cv)
     obtain ⟨q, o⟩ := hid2 u ((Below.refl _ (((v.setCell ⟨w.heap.size + 2, 0, none⟩ (.int .i64 0)).setCell ⟨w.heap.size + 2, 1, none⟩ (.bool r)).setCell ⟨w.heap.size + 2, 2, none⟩ (.slice Av m.length cv))).alloc (Nat.le_refl _) (.cells #[.bool r, .slice Av m.length cv] 35))
     have U1 := hid (((u.keep (fun (h : _ ≤ w.heap.size + 2) => by have h8 := J.out.lt; omega) u1).mono (new_le K.out.size)).below o.out)
     obtain ⟨V, W, X, a, g, i, z1⟩ := Kb
     obtain ⟨p0, p1, p2, _⟩ := L.out.below j
     obtain ⟨p3, p4, p5, _⟩ := M.out.below j
     have y1 : ¬ v.heap.size = w.heap.size + 2 := by omega
     have y2 : ¬ w.heap.size + 2 = v.heap.size := by omega
     clear u u1 j Ka
     go_wp2
     refine bodyPost_ret (res_place rfl _ (w.heap.size + 2) rfl (keepC o.out q.out.c0) (keepC o.out q.out.c1) (keepC o.out q.out.c2)) rfl ?_
     exact ⟨_, _, rfl, U1.out, from_ q.out.bel o.out⟩
   · obtain ⟨rfl, rfl, rfl⟩ := h3.top (by
      rw [← hz]
      unfold plusE
      rw [if_neg (by omega), if_pos (by omega)])
     clear hz hno ex O h3 hu hv
     generalize l.length = L1 at *
     obtain ⟨E, F, G, D⟩ := boxS w (.int .i64 0) (.bool s) (.slice A L1 c) (.int .i64 1) (.bool false) (.slice B 0 f) (.int .i64 0) (.bool false) (.slice none 0 0) 93
     obtain ⟨L, M, J, K⟩ := hid4 E F G D
     obtain ⟨P, Q, R, _, _, _, _⟩ := E
     obtain ⟨S, T, U, _, _, _, _⟩ := F
     obtain ⟨_, _, H, I⟩ := boxS w (.int .i64 0) (.bool s) (.slice A L1 c) (.int .i64 1) (.bool false) (.slice B 0 f) (.int .i64 (1)) (.bool false) (.slice none 0 0) 93
     obtain ⟨V, W, X, a, g, i, _⟩ := G
     obtain ⟨C, N⟩ := hid2 H I
     clear D L M J K H I
     go_enter Tryz.func147, Tryz.ntmps147
     go_wp2
     refine bodyPost_ret (res_place rfl _ (w.heap.size + 2) rfl C.out.c0 C.out.c1 C.out.c2) rfl ?_
     exact ⟨none, 0, rfl, U64s.nil _ _, N.out⟩
   · obtain ⟨rfl, rfl, rfl⟩ := h3.bot (by
      rw [← hz]
      unfold plusE
      rw [if_pos (by omega)])
     clear hz hno ex O h3 hu hv
     generalize l.length = L1 at *
     obtain ⟨E, F, G, D⟩ := boxS w (.int .i64 0) (.bool s) (.slice A L1 c) (.int .i64 (-1)) (.bool false) (.slice B 0 f) (.int .i64 0) (.bool false) (.slice none 0 0) 93
     obtain ⟨L, M, J, K⟩ := hid4 E F G D
     obtain ⟨P, Q, R, _, _, _, _⟩ := E
     obtain ⟨S, T, U, _, _, _, _⟩ := F
     obtain ⟨_, _, H, I⟩ := boxS w (.int .i64 0) (.bool s) (.slice A L1 c) (.int .i64 (-1)) (.bool false) (.slice B 0 f) (.int .i64 (-1)) (.bool false) (.slice none 0 0) 93
     obtain ⟨V, W, X, a, g, i, _⟩ := G
     obtain ⟨C, N⟩ := hid2 H I
     clear D L M J K H I
     go_enter Tryz.func147, Tryz.ntmps147
     go_wp2
     refine bodyPost_ret (res_place rfl _ (w.heap.size + 2) rfl C.out.c0 C.out.c1 C.out.c2) rfl ?_
     exact ⟨none, 0, rfl, U64s.nil _ _, N.out⟩
 · rcases h2 with ⟨rfl, n2, g1, g2⟩ | ⟨rfl, rfl, rfl, hy⟩ | ⟨rfl, rfl, rfl, hy⟩
   · obtain ⟨rfl, rfl, rfl⟩ := h3.top (by
      rw [← hz]
      unfold plusE
      rw [if_neg (by omega), if_pos (by omega)])
     clear hz hno ex O h3 hu hv
     generalize k.length = L2 at *
     obtain ⟨E, F, G, D⟩ := boxS w (.int .i64 1) (.bool false) (.slice A 0 c) (.int .i64 0) (.bool t) (.slice B L2 f) (.int .i64 0) (.bool false) (.slice none 0 0) 93
     obtain ⟨L, M, J, K⟩ := hid4 E F G D
     obtain ⟨P, Q, R, _, _, _, _⟩ := E
     obtain ⟨S, T, U, _, _, _, _⟩ := F
     obtain ⟨_, _, H, I⟩ := boxS w (.int .i64 1) (.bool false) (.slice A 0 c) (.int .i64 0) (.bool t) (.slice B L2 f) (.int .i64 (1)) (.bool false) (.slice none 0 0) 93
     obtain ⟨V, W, X, a, g, i, _⟩ := G
     obtain ⟨C, N⟩ := hid2 H I
     clear D L M J K H I
     go_enter Tryz.func147, Tryz.ntmps147
     go_wp2
     refine bodyPost_ret (res_place rfl _ (w.heap.size + 2) rfl C.out.c0 C.out.c1 C.out.c2) rfl ?_
     exact ⟨none, 0, rfl, U64s.nil _ _, N.out⟩
   · obtain ⟨rfl, rfl, rfl⟩ := h3.top (by
      rw [← hz]
      unfold plusE
      rw [if_neg (by omega), if_pos (by omega)])
     clear hz hno ex O h3 hu hv
     obtain ⟨E, F, G, D⟩ := boxS w (.int .i64 1) (.bool false) (.slice A 0 c) (.int .i64 1) (.bool false) (.slice B 0 f) (.int .i64 0) (.bool false) (.slice none 0 0) 93
     obtain ⟨L, M, J, K⟩ := hid4 E F G D
     obtain ⟨P, Q, R, _, _, _, _⟩ := E
     obtain ⟨S, T, U, _, _, _, _⟩ := F
     obtain ⟨_, _, H, I⟩ := boxS w (.int .i64 1) (.bool false) (.slice A 0 c) (.int .i64 1) (.bool false) (.slice B 0 f) (.int .i64 (1)) (.bool false) (.slice none 0 0) 93
     obtain ⟨V, W, X, a, g, i, _⟩ := G
     obtain ⟨C, N⟩ := hid2 H I
     clear D L M J K H I
     go_enter Tryz.func147, Tryz.ntmps147
     go_wp2
     refine bodyPost_ret (res_place rfl _ (w.heap.size + 2) rfl C.out.c0 C.out.c1 C.out.c2) rfl ?_
     exact ⟨none, 0, rfl, U64s.nil _ _, N.out⟩
   · exact absurd ⟨hx, hy⟩ hno.1
 · rcases h2 with ⟨rfl, n2, g1, g2⟩ | ⟨rfl, rfl, rfl, hy⟩ | ⟨rfl, rfl, rfl, hy⟩
   · obtain ⟨rfl, rfl, rfl⟩ := h3.bot (by
      rw [← hz]
      unfold plusE
      rw [if_pos (by omega)])
     clear hz hno ex O h3 hu hv
     generalize k.length = L2 at *
     obtain ⟨E, F, G, D⟩ := boxS w (.int .i64 (-1)) (.bool false) (.slice A 0 c) (.int .i64 0) (.bool t) (.slice B L2 f) (.int .i64 0) (.bool false) (.slice none 0 0) 93
     obtain ⟨L, M, J, K⟩ := hid4 E F G D
     obtain ⟨P, Q, R, _, _, _, _⟩ := E
     obtain ⟨S, T, U, _, _, _, _⟩ := F
     obtain ⟨_, _, H, I⟩ := boxS w (.int .i64 (-1)) (.bool false) (.slice A 0 c) (.int .i64 0) (.bool t) (.slice B L2 f) (.int .i64 (-1)) (.bool false) (.slice none 0 0) 93
     obtain ⟨V, W, X, a, g, i, _⟩ := G
     obtain ⟨C, N⟩ := hid2 H I
     clear D L M J K H I
     go_enter Tryz.func147, Tryz.ntmps147
     go_wp2
     refine bodyPost_ret (res_place rfl _ (w.heap.size + 2) rfl C.out.c0 C.out.c1 C.out.c2) rfl ?_
     exact ⟨none, 0, rfl, U64s.nil _ _, N.out⟩
   · exact absurd ⟨hx, hy⟩ hno.2
   · obtain ⟨rfl, rfl, rfl⟩ := h3.bot (by
      rw [← hz]
      unfold plusE
      rw [if_pos (by omega)])
     clear hz hno ex O h3 hu hv
     obtain ⟨E, F, G, D⟩ := boxS w (.int .i64 (-1)) (.bool false) (.slice A 0 c) (.int .i64 (-1)) (.bool false) (.slice B 0 f) (.int .i64 0) (.bool false) (.slice none 0 0) 93
     obtain ⟨L, M, J, K⟩ := hid4 E F G D
     obtain ⟨P, Q, R, _, _, _, _⟩ := E
     obtain ⟨S, T, U, _, _, _, _⟩ := F
     obtain ⟨_, _, H, I⟩ := boxS w (.int .i64 (-1)) (.bool false) (.slice A 0 c) (.int .i64 (-1)) (.bool false) (.slice B 0 f) (.int .i64 (-1)) (.bool false) (.slice none 0 0) 93
     obtain ⟨V, W, X, a, g, i, _⟩ := G
     obtain ⟨C, N⟩ := hid2 H I
     clear D L M J K H I
     go_enter Tryz.func147, Tryz.ntmps147
     go_wp2
     refine bodyPost_ret (res_place rfl _ (w.heap.size + 2) rfl C.out.c0 C.out.c1 C.out.c2) rfl ?_
     exact ⟨none, 0, rfl, U64s.nil _ _, N.out⟩
theorem isign_p {w : World} {b g : Int} {l : List Nat} (h1 : Pl x b s l) (hg : sgn x = g) (hu : U64s w Z A c l) :
  Calls Tryz.prog 169 #[.agg #[.int .i64 b, .bool s, .slice A l.length c]] w fun e' w' => e' = .returned (.int .i64 g) ∧ Below w.heap.size w w' := by
 have H := bigZ_pos
 have B : Below w.heap.size w (w.alloc (.cells #[.int .i64 b, .bool s, .slice A l.length c] 93)) := (Below.refl _ _).alloc (Nat.le_refl _) _
 have D := Box3.new w (.int .i64 b) (.bool s) (.slice A l.length c) 93
 have C := hid B
 obtain ⟨I, J, K, _, _, _, _⟩ := D
 rcases h1 with ⟨rfl, n1, r1, r2⟩ | ⟨rfl, rfl, rfl, hx⟩ | ⟨rfl, rfl, rfl, hx⟩
 · have E := hid (sign_n n1 hg (hu.below B))
   clear hu n1 B hg
   go_enter Tryz.func169, Tryz.ntmps169
   go_wp2_with fail
   refine E.out.mono ?_
   rintro e' L ⟨rfl, G⟩
   have F := from_ C.out G
   go_wp2
   go_ret
   exact ⟨rfl, F⟩
 · obtain rfl : g = 1 := by rw [← hg]; unfold sgn; rw [if_neg (by omega), if_neg (by omega)]
   clear hu B hg
   go_enter Tryz.func169, Tryz.ntmps169
   go_wp2
   go_ret
   exact ⟨rfl, C.out⟩
 · obtain rfl : g = -1 := by rw [← hg]; unfold sgn; rw [if_neg (by omega), if_pos (by omega)]
   clear hu B hg
   go_enter Tryz.func169, Tryz.ntmps169
   go_wp2
   go_ret
   exact ⟨rfl, C.out⟩
theorem sgn3 (x : Int) : (sgn x = 0 ∧ x = 0) ∨ (sgn x = -1 ∧ x < 0) ∨ (sgn x = 1 ∧ 0 < x) := by
 unfold sgn
 split
 · exact .inl ⟨rfl, by assumption⟩
 · split
   · exact .inr (.inl ⟨rfl, by assumption⟩)
   · exact .inr (.inr ⟨rfl, by omega⟩)
theorem itimes_p {w : World} {b d : Int} {l k : List Nat} (h1 : Pl x b s l) (h2 : Pl y d t k) (h3 : Pl z e r m) (hz : timesE bigZ x y = z) (hu : U64s w Z A c l) (hv : U64s w Y B f k) (hl : l.length ≤ 3200) (hl2 : k.length ≤ 3200) :
  Calls Tryz.prog 146 #[.agg #[.int .i64 b, .bool s, .slice A l.length c], .agg #[.int .i64 d, .bool t, .slice B k.length f]] w fun e' w' => ∃ A' c', e' = .returned (.agg #[.int .i64 e, .bool r, .slice A' m.length c']) ∧ U64s w' (new w.heap.size) A' c' m ∧ Below w.heap.size w w' := by
 have Kk := bigZ_pos
 have ex := h1.ext hl
 have ey := h2.ext hl2
 obtain ⟨bA, bB, bR, Ki⟩ := boxS w (.int .i64 b) (.bool s) (.slice A l.length c) (.int .i64 d) (.bool t) (.slice B k.length f) (.int .i64 0) (.bool false) (.slice none 0 0) 93
 obtain ⟨g, hg⟩ : ∃ g, sgn x = g := ⟨_, rfl⟩
 obtain ⟨h, hh⟩ : ∃ h, sgn y = h := ⟨_, rfl⟩
 obtain ⟨R, S⟩ := hid2 (fun (W : World) (q : Below w.heap.size w W) => isign_p h1 hg (hu.below q)) (fun (W : World) (q : Below w.heap.size w W) => isign_p h2 hh (hv.below q))
 have J := sgn3 x
 have K := sgn3 y
 rw [hg] at J
 rw [hh] at K
 obtain ⟨v, N⟩ : ∃ v, g * h = v := ⟨_, rfl⟩
 have Kc : (v = 0 ∧ (x = 0 ∨ y = 0)) ∨ (v = 1 ∧ x ≠ 0 ∧ y ≠ 0 ∧ (0 < x ↔ 0 < y)) ∨ (v = -1 ∧ x ≠ 0 ∧ y ≠ 0 ∧ ¬ (0 < x ↔ 0 < y)) := by
  rw [← N]
  rcases J with ⟨rfl, a⟩ | ⟨rfl, a⟩ | ⟨rfl, a⟩ <;> rcases K with ⟨rfl, b⟩ | ⟨rfl, b⟩ | ⟨rfl, b⟩ <;> simp <;> omega
 obtain ⟨v1, O⟩ : ∃ u, (v != 0) = u := ⟨_, rfl⟩
 obtain ⟨T, U⟩ : ∃ u, (b != 0) = u := ⟨_, rfl⟩
 obtain ⟨v3, Kb⟩ : ∃ u, (d != 0) = u := ⟨_, rfl⟩
 have Kd : (v == 0) = !v1 := by rw [← O]; cases h : (v == 0) <;> simp [bne, h]
 have fl : ∀ u : Bool, (v != 0) = u → (u = false ↔ v = 0) := fun u h => by rw [← h]; simp
 have HD : (v1 = false ∧ e = 0 ∧ r = false ∧ m = []) ∨ (v1 = true ∧ (T = true ∨ (T = false ∧ v3 = true)) ∧ e = v ∧ r = false ∧ m = []) ∨ (v1 = true ∧ T = false ∧ v3 = false ∧ e = 0 ∧ Nm x s l ∧ Nm y t k ∧ Nm z r m ∧ x * y = z) := by
  by_cases h0 : v = 0
  · have Kl : x = 0 ∨ y = 0 := by omega
    have ez : z = 0 := by rw [← hz]; unfold timesE; rw [if_pos Kl]
    obtain ⟨e1, L⟩ := h3.fin (by omega)
    exact .inl ⟨by rw [← O, h0]; rfl, e1, L.1.trans (by rw [ez]; rfl), L.2.trans (by rw [ez]; exact limbs_eq_nil.2 rfl)⟩
  · have Ke : v1 = true := by rw [← O]; simp [h0]
    have hn : ¬ (x = 0 ∨ y = 0) := by omega
    by_cases hbd : b = 0 ∧ d = 0
    · obtain ⟨n1, r1⟩ : Nm x s l ∧ (-bigZ < x ∧ x < bigZ) := by rcases h1 with ⟨_, n, q⟩ | ⟨q, _⟩ | ⟨q, _⟩ <;> first | exact ⟨n, q⟩ | omega
      obtain ⟨n2, r2⟩ : Nm y t k ∧ (-bigZ < y ∧ y < bigZ) := by rcases h2 with ⟨_, n, q⟩ | ⟨q, _⟩ | ⟨q, _⟩ <;> first | exact ⟨n, q⟩ | omega
      have ez : x * y = z := by rw [← hz, timesE_fin r1 r2]
      obtain ⟨e0, L⟩ := h3.fin (by rw [← hz]; exact timesE_small ex ey (by omega) r1 r2)
      exact .inr (.inr ⟨Ke, by rw [← U, hbd.1]; rfl, by rw [← Kb, hbd.2]; rfl, e0, n1, n2, L, ez⟩)
    · have hq : x = bigZ ∨ x = -bigZ ∨ y = bigZ ∨ y = -bigZ := by
       rcases h1 with ⟨q, _⟩ | ⟨_, _, _, q⟩ | ⟨_, _, _, q⟩
       · rcases h2 with ⟨G, _⟩ | ⟨_, _, _, G⟩ | ⟨_, _, _, G⟩
         · exact absurd ⟨q, G⟩ hbd
         · exact .inr (.inr (.inl G))
         · exact .inr (.inr (.inr G))
       · exact .inl q
       · exact .inr (.inl q)
      have Kf : T = true ∨ (T = false ∧ v3 = true) := by
       rw [← U, ← Kb]
       by_cases hb0 : b = 0
       · exact .inr ⟨by simp [hb0], by simp; omega⟩
       · exact .inl (by simp [hb0])
      unfold timesE at hz
      rw [if_neg hn, if_pos hq] at hz
      rcases Kc with ⟨q, _⟩ | ⟨q, _, _, q3⟩ | ⟨q, _, _, q3⟩
      · exact absurd q h0
      · rw [if_pos q3] at hz
        obtain ⟨a1, a2, a3⟩ := h3.top hz.symm
        exact .inr (.inl ⟨Ke, Kf, a1.trans q.symm, a2, a3⟩)
      · rw [if_neg q3] at hz
        obtain ⟨a1, a2, a3⟩ := h3.bot hz.symm
        exact .inr (.inl ⟨Ke, Kf, a1.trans q.symm, a2, a3⟩)
 obtain ⟨H, I, E, F, V⟩ := hid5 bA bB bR Ki (And.intro J (And.intro K N))
 clear bA bB bR Ki J K N hg hh fl Kc ex ey h1 h2 h3 hz Kk
 obtain ⟨X, i⟩ := hid2 HD (And.intro O (And.intro U (And.intro Kb Kd)))
 clear HD O U Kb Kd
 go_enter Tryz.func146, Tryz.ntmps146
 go_upto_region 1 with fail
 generalize hW : (((w.alloc (.cells #[.int .i64 b, .bool s, .slice A l.length c] 93)).alloc (.cells #[.int .i64 d, .bool t, .slice B k.length f] 93)).alloc (.cells #[.int .i64 0, .bool false, .slice none 0 0] 93)) = W1 at *
 clear hW
 go_upto_region 1 with fail
 have P := boxD_keep (boxD_of H.out I.out) bdr_
 have M := hid (Below.refl W1.heap.size W1).drew
 go_cut [5] (fun sx wx => sx = .int .i64 v ∧ Below W1.heap.size W1 wx)
 case first =>
  obtain ⟨J, K, N⟩ := V.out
  have Q : IntKind.i64.wrap (g * h) = v := by
   rw [← N]
   rcases J with ⟨rfl, a⟩ | ⟨rfl, a⟩ | ⟨rfl, a⟩ <;> rcases K with ⟨rfl, b⟩ | ⟨rfl, b⟩ | ⟨rfl, b⟩ <;> decide
  have Hw := hid Q
  clear J K N Q
  first | go_region_held3 (fun w' => D3 w' w.heap.size (.int .i64 b) (.bool s) (.slice A l.length c) (C3 w' (w.heap.size + 1) (.int .i64 d) (.bool t) (.slice B k.length f)))
   (first | with_reducible exact P | (go_keep; done))
   ((go_at_call 169; (first | (with_reducible refine (R.out _ (from_ F.out M.out)).mono ?_) | (with_reducible refine (S.out _ (from_ F.out M.out)).mono ?_)); rintro e' w2 ⟨rfl, Kj⟩; replace P := boxD_keep P Kj; replace M := hid (from_ M.out Kj))) | fail
  all_goals
   clear P
   have Q := Hw.out
   go_wp2_with fail
   go_meet
   exact ⟨by first | rfl | trivial | (rw [Q]) | (simp [Q]), M.out⟩
 case rest =>
  clear P M
  obtain ⟨rfl, D⟩ := hcut
  replace H := hid (H.out.below D)
  replace I := hid (I.out.below D)
  replace E := hid (E.out.below D)
  replace F := hid (from_ F.out D)
  clear D
  obtain ⟨W2, Km⟩ : ∃ W, W = wc := ⟨_, rfl⟩
  subst Km
  obtain ⟨O, U, Kc, Kd⟩ := i.out
  rcases X.out with ⟨rfl, rfl, rfl, rfl⟩ | ⟨rfl, rfl | ⟨rfl, rfl⟩, rfl, rfl, rfl⟩ | ⟨rfl, rfl, rfl, rfl, n1, n2, L, hz⟩
  · clear R S V i X hu hv hl hl2
    have C := hid (E.out.put (w := w) F.out (by omega) (.int .i64 0) (.bool false) (.slice none 0 0))
    obtain ⟨j, o, p2, _⟩ := H.out
    obtain ⟨p3, p4, p5, _⟩ := I.out
    obtain ⟨q0, q1, G, f0, f1, f2, _⟩ := E.out
    go_wp2
    refine bodyPost_ret (res_place rfl _ (w.heap.size + 2) rfl C.out.c0 C.out.c1 C.out.c2) rfl ?_
    exact ⟨none, 0, rfl, U64s.nil _ _, C.out.bel⟩
  · clear R S V i X hu hv hl hl2
    have C := hid (E.out.put (w := w) F.out (by omega) (.int .i64 e) (.bool false) (.slice none 0 0))
    obtain ⟨j, o, p2, _⟩ := H.out
    obtain ⟨p3, p4, p5, _⟩ := I.out
    obtain ⟨q0, q1, G, f0, f1, f2, _⟩ := E.out
    go_wp2
    refine bodyPost_ret (res_place rfl _ (w.heap.size + 2) rfl C.out.c0 C.out.c1 C.out.c2) rfl ?_
    exact ⟨none, 0, rfl, U64s.nil _ _, C.out.bel⟩
  · clear R S V i X hu hv hl hl2
    have C := hid (E.out.put (w := w) F.out (by omega) (.int .i64 e) (.bool false) (.slice none 0 0))
    obtain ⟨j, o, p2, _⟩ := H.out
    obtain ⟨p3, p4, p5, _⟩ := I.out
    obtain ⟨q0, q1, G, f0, f1, f2, _⟩ := E.out
    go_wp2
    refine bodyPost_ret (res_place rfl _ (w.heap.size + 2) rfl C.out.c0 C.out.c1 C.out.c2) rfl ?_
    exact ⟨none, 0, rfl, U64s.nil _ _, C.out.bel⟩
  · have CA := hid (fun (W : World) (q : Below w.heap.size w W) => wmul_n n1 n2 L hz (by omega) (by omega) (hu.below q) (hv.below q))
    clear R S V i X hu hv hl hl2 n1 n2 L hz
    obtain ⟨j, o, p2, _⟩ := H.out
    obtain ⟨p3, p4, p5, _⟩ := I.out
    go_wp2_with fail
    refine (CA.out _ F.out).mono ?_
    rintro e' w1 ⟨Av, cv, rfl, u1, D⟩
    clear j o p2 p3 p4 p5
    have Kg := from_ F.out D
    have Kh := E.out.below D
    have hP := Kh.put Kg (by omega) (.int .i64 0) (.bool r) (.slice Av m.length cv)
    obtain ⟨C, Ka⟩ := hid2 hP ((Below.refl _ (((w1.setCell ⟨w.heap.size + 2, 0, none⟩ (.int .i64 0)).setCell ⟨w.heap.size + 2, 1, none⟩ (.bool r)).setCell ⟨w.heap.size + 2, 2, none⟩ (.slice Av m.length cv))).alloc (Nat.le_refl _) (.cells #[.bool r, .slice Av m.length cv] 35))
    have U1 := hid (((hP.keep (fun (h : _ ≤ w.heap.size + 2) => by have h8 := E.out.lt; omega) u1).mono (new_le F.out.size)).below Ka.out)
    obtain ⟨q0, q1, G, f0, f1, f2, z1⟩ := Kh
    obtain ⟨j, o, p2, _⟩ := H.out.below D
    obtain ⟨p3, p4, p5, _⟩ := I.out.below D
    have y1 : ¬ w1.heap.size = w.heap.size + 2 := by omega
    have y2 : ¬ w.heap.size + 2 = w1.heap.size := by omega
    clear hP u1 D Kg
    go_wp2
    refine bodyPost_ret (res_place rfl _ (w.heap.size + 2) rfl (keepC Ka.out C.out.c0) (keepC Ka.out C.out.c1) (keepC Ka.out C.out.c2)) rfl ?_
    exact ⟨_, _, rfl, U1.out, from_ C.out.bel Ka.out⟩
theorem icrossed_any {n : Nat} (hn : n ≤ 6000) {F : Nat} (hF : F = 146 ∨ F = 167 ∨ F = 171) {op : Int → Int → Int} {w : World} {n1 : Bool} 
  (u1 : U64s w Z1 A a l0) (u2 : U64s w Z2 B b l1) (u3 : U64s w Z3 C c k0) (u4 : U64s w Z4 D d k1) (h1 : okA n0 s0 l0 n1 s1 l1 = true) (h2 : okA m0 t0 k0 m1 t1 k1 = true)
  (q1 : l0.length ≤ n) (q2 : l1.length ≤ n) (q3 : k0.length ≤ n) (q4 : k1.length ≤ n)
  (hx : ∀ {x y b d : Int} {s t : Bool} {l k : List Nat}, (y = loV m0 t0 k0 ∨ y = hiV m1 t1 k1) → Pl x b s l → Pl y d t k → l.length ≤ n → k.length ≤ n → (x = loV n0 s0 l0 ∨ x = hiV n1 s1 l1) → Ext bigZ (wN 6400) (op x y))
  (hC : ∀ {W : World} {Z Y : Zone} {x y z b d e : Int} {s t r : Bool} {l k m : List Nat} {A B : Option Addr} {c f : Nat}, (x = loV n0 s0 l0 ∨ x = hiV n1 s1 l1) → (y = loV m0 t0 k0 ∨ y = hiV m1 t1 k1) → Pl x b s l → Pl y d t k → Pl z e r m → op x y = z → U64s W Z A c l → U64s W Y B f k → l.length ≤ n → k.length ≤ n → Calls Tryz.prog F #[.agg #[.int .i64 b, .bool s, .slice A l.length c], .agg #[.int .i64 d, .bool t, .slice B k.length f]] W fun e' w' => ∃ A' c', e' = .returned (.agg #[.int .i64 e, .bool r, .slice A' m.length c']) ∧ U64s w' (new W.heap.size) A' c' m ∧ Below W.heap.size W w')
  (hz0 : z0 = lo4 (op (loV n0 s0 l0) (loV m0 t0 k0)) (op (loV n0 s0 l0) (hiV m1 t1 k1)) (op (hiV n1 s1 l1) (loV m0 t0 k0)) (op (hiV n1 s1 l1) (hiV m1 t1 k1))) (hz1 : z1 = hi4 (op (loV n0 s0 l0) (loV m0 t0 k0)) (op (loV n0 s0 l0) (hiV m1 t1 k1)) (op (hiV n1 s1 l1) (loV m0 t0 k0)) (op (hiV n1 s1 l1) (hiV m1 t1 k1))) (gm : z0 < bigZ) (gM : -bigZ < z1) (e0 : EndL z0 rn0 rs0 rl0) (e1 : EndH z1 rn1 rs1 rl1) :
  Calls Tryz.prog 145 #[.agg #[.bool n0, .bool s0, .slice A l0.length a, .bool n1, .bool s1, .slice B l1.length b], .agg #[.bool m0, .bool t0, .slice C k0.length c, .bool m1, .bool t1, .slice D k1.length d], .func (.func F) #[] #[]] w fun e w' => ∃ rA ra rB rb, e = .returned (.agg #[.bool rn0, .bool rs0, .slice rA rl0.length ra, .bool rn1, .bool rs1, .slice rB rl1.length rb]) ∧ U64s w' (new w.heap.size) rA ra rl0 ∧ U64s w' (new w.heap.size) rB rb rl1 ∧ Below w.heap.size w w' := by
 obtain ⟨bA, bB, bR, Ks⟩ := boxX w (.bool n0) (.bool s0) (.slice A l0.length a) (.bool n1) (.bool s1) (.slice B l1.length b) (.bool m0) (.bool t0) (.slice C k0.length c) (.bool m1) (.bool t1) (.slice D k1.length d) (.bool false) (.bool false) (.slice none 0 0) (.bool false) (.bool false) (.slice none 0 0) 39
 obtain ⟨Kt, Kv⟩ := okA_ends h1
 obtain ⟨Kw, Kx⟩ := okA_ends h2
 obtain ⟨x1, Ky, Kz, KA, KB, V⟩ := Plc.ex (-1) n0 s0 l0 A a
 obtain ⟨x2, KC, KD, KE, KF, X⟩ := Plc.ex 1 n1 s1 l1 B b
 obtain ⟨x3, KG, KH, KI, KJ, i⟩ := Plc.ex (-1) m0 t0 k0 C c
 obtain ⟨x4, KK, KL, KM, KN, j⟩ := Plc.ex 1 m1 t1 k1 D d
 have R := V.lo Kt u1.small (by omega)
 have S := X.hi Kv u2.small (by omega)
 have T := i.lo Kw u3.small (by omega)
 have U := j.hi Kx u4.small (by omega)
 have r1 := V.len
 have r2 := X.len
 have r3 := i.len
 have r4 := j.len
 have v1 := V.u64s u1
 have v2 := X.u64s u2
 have v3 := i.u64s u3
 have v4 := j.u64s u4
 have i1 := lo_range (n := n0) (s := s0) u1.small (by omega)
 have i2 := hi_range (n := n1) (s := s1) u2.small (by omega)
 have i3 := lo_range (n := m0) (s := t0) u3.small (by omega)
 have i4 := hi_range (n := m1) (s := t1) u4.small (by omega)
 obtain ⟨L1, L2, L3, L4⟩ := hid4 (fun (W : World) => ilow_p (w := W) (v3 := .bool n1) (v4 := .bool s1) (v5 := .slice B l1.length b) V) (fun (W : World) => ihigh_p (w := W) (v3 := .bool n0) (v4 := .bool s0) (v5 := .slice A l0.length a) X) (fun (W : World) => ilow_p (w := W) (v3 := .bool m1) (v4 := .bool t1) (v5 := .slice D k1.length d) i) (fun (W : World) => ihigh_p (w := W) (v3 := .bool m0) (v4 := .bool t0) (v5 := .slice C k0.length c) j)
 generalize loV n0 s0 l0 = X1 at *
 generalize hiV n1 s1 l1 = X2 at *
 generalize loV m0 t0 k0 = X3 at *
 generalize hiV m1 t1 k1 = X4 at *
 obtain ⟨Y1, o⟩ : ∃ Y, op X1 X3 = Y := ⟨_, rfl⟩
 have Kj : Ext bigZ (wN 6400) Y1 := by rw [← o]; exact hx (.inl rfl) R T (by omega) (by omega) (.inl rfl)
 obtain ⟨y1, Kn, u, Kf⟩ : ∃ b s l, Pl Y1 b s l := ⟨_, _, _, Pl.all (Kj.range (by omega))⟩
 have KO := Kf.len_of Kj
 have T1 : Hid (∀ W, Below w.heap.size w W → Calls Tryz.prog F #[.agg #[.int .i64 x1, .bool Ky, .slice KA Kz.length KB], .agg #[.int .i64 x3, .bool KG, .slice KI KH.length KJ]] W fun e' w' => ∃ A' c', e' = .returned (.agg #[.int .i64 y1, .bool Kn, .slice A' u.length c']) ∧ U64s w' (new W.heap.size) A' c' u ∧ Below W.heap.size W w') := fun W g => hC (.inl rfl) (.inl rfl) R T Kf o (v1.below g) (v3.below g) (by omega) (by omega)
 obtain ⟨Y2, v⟩ : ∃ Y, op X1 X4 = Y := ⟨_, rfl⟩
 have Kk : Ext bigZ (wN 6400) Y2 := by rw [← v]; exact hx (.inr rfl) R U (by omega) (by omega) (.inl rfl)
 obtain ⟨y2, Ko, Ka, Kg⟩ : ∃ b s l, Pl Y2 b s l := ⟨_, _, _, Pl.all (Kk.range (by omega))⟩
 have KP := Kg.len_of Kk
 have T2 : Hid (∀ W, Below w.heap.size w W → Calls Tryz.prog F #[.agg #[.int .i64 x1, .bool Ky, .slice KA Kz.length KB], .agg #[.int .i64 x4, .bool KK, .slice KM KL.length KN]] W fun e' w' => ∃ A' c', e' = .returned (.agg #[.int .i64 y2, .bool Ko, .slice A' Ka.length c']) ∧ U64s w' (new W.heap.size) A' c' Ka ∧ Below W.heap.size W w') := fun W g => hC (.inl rfl) (.inr rfl) R U Kg v (v1.below g) (v4.below g) (by omega) (by omega)
 obtain ⟨Y3, Kb⟩ : ∃ Y, op X2 X3 = Y := ⟨_, rfl⟩
 have Kl : Ext bigZ (wN 6400) Y3 := by rw [← Kb]; exact hx (.inl rfl) S T (by omega) (by omega) (.inr rfl)
 obtain ⟨y3, Kp, Kc, Kh⟩ : ∃ b s l, Pl Y3 b s l := ⟨_, _, _, Pl.all (Kl.range (by omega))⟩
 have KQ := Kh.len_of Kl
 have T3 : Hid (∀ W, Below w.heap.size w W → Calls Tryz.prog F #[.agg #[.int .i64 x2, .bool KC, .slice KE KD.length KF], .agg #[.int .i64 x3, .bool KG, .slice KI KH.length KJ]] W fun e' w' => ∃ A' c', e' = .returned (.agg #[.int .i64 y3, .bool Kp, .slice A' Kc.length c']) ∧ U64s w' (new W.heap.size) A' c' Kc ∧ Below W.heap.size W w') := fun W g => hC (.inr rfl) (.inl rfl) S T Kh Kb (v2.below g) (v3.below g) (by omega) (by omega)
 obtain ⟨Y4, Kd⟩ : ∃ Y, op X2 X4 = Y := ⟨_, rfl⟩
 have Km : Ext bigZ (wN 6400) Y4 := by rw [← Kd]; exact hx (.inr rfl) S U (by omega) (by omega) (.inr rfl)
 obtain ⟨y4, Kq, Ke, Ki⟩ : ∃ b s l, Pl Y4 b s l := ⟨_, _, _, Pl.all (Km.range (by omega))⟩
 have KR := Ki.len_of Km
 have T4 : Hid (∀ W, Below w.heap.size w W → Calls Tryz.prog F #[.agg #[.int .i64 x2, .bool KC, .slice KE KD.length KF], .agg #[.int .i64 x4, .bool KK, .slice KM KL.length KN]] W fun e' w' => ∃ A' c', e' = .returned (.agg #[.int .i64 y4, .bool Kq, .slice A' Ke.length c']) ∧ U64s w' (new W.heap.size) A' c' Ke ∧ Below W.heap.size W w') := fun W g => hC (.inr rfl) (.inr rfl) S U Ki Kd (v2.below g) (v4.below g) (by omega) (by omega)
 have KS : Hid (∀ (W : World) (ty : TypeId) (Z5 Z6 Z7 Z8 : Zone) (D1 D2 D3 D4 : Option Addr) (d1 d2 d3 d4 : Nat), U64s W Z5 D1 d1 u → U64s W Z6 D2 d2 Ka → U64s W Z7 D3 d3 Kc → U64s W Z8 D4 d4 Ke → Calls Tryz.prog 144 #[.slice (some ⟨W.heap.size, 0, none⟩) 4 4] (W.alloc (.cells #[.int .i64 y1, .bool Kn, .slice D1 u.length d1, .int .i64 y2, .bool Ko, .slice D2 Ka.length d2, .int .i64 y3, .bool Kp, .slice D3 Kc.length d3, .int .i64 y4, .bool Kq, .slice D4 Ke.length d4] ty)) fun e w' => ∃ N O P Q, e = .returned (.agg #[.bool rn0, .bool rs0, .slice N rl0.length O, .bool rn1, .bool rs1, .slice P rl1.length Q]) ∧ U64s w' (new W.heap.size) N O rl0 ∧ U64s w' (new W.heap.size) P Q rl1 ∧ Below W.heap.size W w') := fun W ty Z5 Z6 Z7 Z8 D1 D2 D3 D4 d1 d2 d3 d4 g1 g2 g3 g4 => by
  have h9 := icorners4 (W := W) (ty := ty) (p := ⟨_, y1, Kn, u⟩) (q := ⟨_, y2, Ko, Ka⟩) (r := ⟨_, y3, Kp, Kc⟩) (s := ⟨_, y4, Kq, Ke⟩) Kf Kg Kh Ki g1 g2 g3 g4 (by dsimp only; omega) (by dsimp only; omega) (by dsimp only; omega) (by dsimp only; omega) (m := z0) (M := z1) (by dsimp only; rw [hz0, ← o, ← v, ← Kb, ← Kd]) (by dsimp only; rw [hz1, ← o, ← v, ← Kb, ← Kd]) gm gM e0 e1
  exact h9
 have H := boxT_of bA bB
 replace H := boxT_keep H bdr_
 have G := hid Ks.drew
 have Kr : Box6 _ (w.heap.size + 1 + 1) _ _ _ _ _ _ := bR
 have I := hid (Kr.below bdr_)
 clear hx hC bA bB bR Kr Ks hz0 hz1 e0 e1 gm gM
 clear o Kj Kf KO v Kk Kg KP Kb Kl Kh KQ Kd Km Ki KR
 clear u1 u2 u3 u4 Kt Kv Kw Kx V X i j R S T U r1 r2 r3 r4 v1 v2 v3 v4 i1 i2 i3 i4 q1 q2 q3 q4 h1 h2
 rcases hF with rfl | rfl | rfl
 all_goals
  go_enter Tryz.func145, Tryz.ntmps145
  go_wp2
  generalize hgR : w.heap.size + 1 + 1 = gR at *
  have n1 : gR ≠ w.heap.size := by omega
  have n2 : gR ≠ w.heap.size + 1 := by omega
  have n3 : w.heap.size ≤ gR := by omega
  obtain ⟨N1, N2, N3⟩ := hid3 n1 n2 n3
  clear hgR n1 n2 n3
  first | go_region_held3 (fun w' => D6 w' w.heap.size (.bool n0) (.bool s0) (.slice A l0.length a) (.bool n1) (.bool s1) (.slice B l1.length b) (C6 w' (w.heap.size + 1) (.bool m0) (.bool t0) (.slice C k0.length c) (.bool m1) (.bool t1) (.slice D k1.length d)))
   (first
    | with_reducible exact H
    | with_reducible exact boxT_st6 N1.out N2.out H
    | exact boxT_keep H bal_)
   (first
    | (go_at_call 36; (first | (with_reducible refine (L1.out _).mono ?_) | (with_reducible refine (L3.out _).mono ?_)); rintro e w2 ⟨rfl, E⟩; (try replace J := J.below E); (try replace K := K.below E); (try replace L := L.below E); replace H := boxT_keep H E; replace I := hid (I.out.below E); replace G := hid (from_ G.out E))
    | (go_at_call 37; (first | (with_reducible refine (L2.out _).mono ?_) | (with_reducible refine (L4.out _).mono ?_)); rintro e w2 ⟨rfl, E⟩; (try replace J := J.below E); (try replace K := K.below E); (try replace L := L.below E); replace H := boxT_keep H E; replace I := hid (I.out.below E); replace G := hid (from_ G.out E))
    | ((first | go_at_call 146 | go_at_call 167 | go_at_call 171); with_reducible refine (T1.out _ G.out).mono ?_; rintro e w2 ⟨D1, d1, rfl, J, E⟩; replace H := boxT_keep H E; replace I := hid (I.out.below E); replace G := hid (from_ G.out E))
    | ((first | go_at_call 146 | go_at_call 167 | go_at_call 171); with_reducible refine (T2.out _ G.out).mono ?_; rintro e w2 ⟨D2, d2, rfl, K, E⟩; (try replace J := J.below E); replace H := boxT_keep H E; replace I := hid (I.out.below E); replace G := hid (from_ G.out E))
    | ((first | go_at_call 146 | go_at_call 167 | go_at_call 171); with_reducible refine (T3.out _ G.out).mono ?_; rintro e w2 ⟨D3, d3, rfl, L, E⟩; (try replace J := J.below E); (try replace K := K.below E); replace H := boxT_keep H E; replace I := hid (I.out.below E); replace G := hid (from_ G.out E))
    | ((first | go_at_call 146 | go_at_call 167 | go_at_call 171); with_reducible refine (T4.out _ G.out).mono ?_; rintro e w2 ⟨D4, d4, rfl, KT, E⟩; (try replace J := J.below E); (try replace K := K.below E); (try replace L := L.below E); replace H := boxT_keep H E; replace I := hid (I.out.below E); replace G := hid (from_ G.out E))
    | (go_at_call 144; with_reducible refine (KS.out _ _ _ _ _ _ _ _ _ _ _ _ _ _ J K L KT).mono ?_; rintro e w3 ⟨N, O, P, Q, rfl, o1, o2, E⟩; replace H := boxT_keep H E; have zl := I.out.lt; replace I := hid (I.out.below E); have Hp := G; replace G := hid (from_ G.out E); have g0 := I.out.cf)) | fail
  all_goals
   obtain ⟨HP, U1, U2⟩ := hid3 (I.out.put G.out N3.out (.bool rn0) (.bool rs0) (.slice N rl0.length O) (.bool rn1) (.bool rs1) (.slice P rl1.length Q)) ((o1.set6 (g := gR) (fun (h : _ ≤ gR) => by omega) (.bool rn0) (.bool rs0) (.slice N rl0.length O) (.bool rn1) (.bool rs1) (.slice P rl1.length Q)).mono (new_le Hp.out.size)) ((o2.set6 (g := gR) (fun (h : _ ≤ gR) => by omega) (.bool rn0) (.bool rs0) (.slice N rl0.length O) (.bool rn1) (.bool rs1) (.slice P rl1.length Q)).mono (new_le Hp.out.size))
   clear o1 o2
   go_wp2
   refine bodyPost_ret (res_itv rfl _ gR rfl HP.out.box) rfl ?_
   exact ⟨_, _, _, _, rfl, U1.out, U2.out, HP.out.bel⟩
theorem icrossed_times {w : World} {n1 : Bool} 
  (u1 : U64s w Z1 A a l0) (u2 : U64s w Z2 B b l1) (u3 : U64s w Z3 C c k0) (u4 : U64s w Z4 D d k1) (h1 : okA n0 s0 l0 n1 s1 l1 = true) (h2 : okA m0 t0 k0 m1 t1 k1 = true)
  (q1 : l0.length ≤ 3200) (q2 : l1.length ≤ 3200) (q3 : k0.length ≤ 3200) (q4 : k1.length ≤ 3200)
  (hz0 : z0 = mulLo (loV n0 s0 l0) (hiV n1 s1 l1) (loV m0 t0 k0) (hiV m1 t1 k1)) (hz1 : z1 = mulHi (loV n0 s0 l0) (hiV n1 s1 l1) (loV m0 t0 k0) (hiV m1 t1 k1)) (gm : z0 < bigZ) (gM : -bigZ < z1) (e0 : EndL z0 rn0 rs0 rl0) (e1 : EndH z1 rn1 rs1 rl1) :
  Calls Tryz.prog 145 #[.agg #[.bool n0, .bool s0, .slice A l0.length a, .bool n1, .bool s1, .slice B l1.length b], .agg #[.bool m0, .bool t0, .slice C k0.length c, .bool m1, .bool t1, .slice D k1.length d], .func (.func 146) #[] #[]] w fun e w' => ∃ rA ra rB rb, e = .returned (.agg #[.bool rn0, .bool rs0, .slice rA rl0.length ra, .bool rn1, .bool rs1, .slice rB rl1.length rb]) ∧ U64s w' (new w.heap.size) rA ra rl0 ∧ U64s w' (new w.heap.size) rB rb rl1 ∧ Below w.heap.size w w' :=
 icrossed_any (n := 3200) (by omega) (by simp) (op := timesE bigZ) u1 u2 u3 u4 h1 h2 (by omega) (by omega) (by omega) (by omega) (fun _ p q hl hk _ => ext_times (N := 3200) (M := 3200) (p.ext hl) (q.ext hk)) (fun _ _ p q r hz u v hl hk => itimes_p p q r hz u v hl hk) hz0 hz1 gm gM e0 e1
theorem iMul_good {w : World} {n1 : Bool} 
  (u1 : U64s w Z1 A a l0) (u2 : U64s w Z2 B b l1) (u3 : U64s w Z3 C c k0) (u4 : U64s w Z4 D d k1) (h1 : okA n0 s0 l0 n1 s1 l1 = true) (h2 : okA m0 t0 k0 m1 t1 k1 = true)
  (q1 : l0.length ≤ 3200) (q2 : l1.length ≤ 3200) (q3 : k0.length ≤ 3200) (q4 : k1.length ≤ 3200)
  (hz0 : z0 = mulLo (loV n0 s0 l0) (hiV n1 s1 l1) (loV m0 t0 k0) (hiV m1 t1 k1)) (hz1 : z1 = mulHi (loV n0 s0 l0) (hiV n1 s1 l1) (loV m0 t0 k0) (hiV m1 t1 k1)) (gm : z0 < bigZ) (gM : -bigZ < z1) (e0 : EndL z0 rn0 rs0 rl0) (e1 : EndH z1 rn1 rs1 rl1) :
  Calls Tryz.prog 94 #[.agg #[.bool n0, .bool s0, .slice A l0.length a, .bool n1, .bool s1, .slice B l1.length b], .agg #[.bool m0, .bool t0, .slice C k0.length c, .bool m1, .bool t1, .slice D k1.length d]] w fun e w' => ∃ rA ra rB rb, e = .returned (.tuple #[.agg #[.bool rn0, .bool rs0, .slice rA rl0.length ra, .bool rn1, .bool rs1, .slice rB rl1.length rb], .int .i64 0]) ∧ U64s w' (new w.heap.size) rA ra rl0 ∧ U64s w' (new w.heap.size) rB rb rl1 ∧ Below w.heap.size w w' := by
 obtain ⟨S, T, U, F⟩ := boxX w (.bool n0) (.bool s0) (.slice A l0.length a) (.bool n1) (.bool s1) (.slice B l1.length b) (.bool m0) (.bool t0) (.slice C k0.length c) (.bool m1) (.bool t1) (.slice D k1.length d) (.bool false) (.bool false) (.slice none 0 0) (.bool false) (.bool false) (.slice none 0 0) 39
 have Q := F.alloc F.size (.cells #[.bool n0, .bool s0, .slice A l0.length a, .bool n1, .bool s1, .slice B l1.length b, .bool m0, .bool t0, .slice C k0.length c, .bool m1, .bool t1, .slice D k1.length d] 39)
 have H := given_twoA (p := ⟨n0, s0, l0, n1, s1, l1⟩) (q := ⟨m0, t0, k0, m1, t1, k1⟩) (ty := 39) (u1.below F) (u2.below F) (u3.below F) (u4.below F)
 rw [show (((w.alloc (.cells #[.bool n0, .bool s0, .slice A l0.length a, .bool n1, .bool s1, .slice B l1.length b] 39)).alloc (.cells #[.bool m0, .bool t0, .slice C k0.length c, .bool m1, .bool t1, .slice D k1.length d] 39)).alloc (.cells #[.bool false, .bool false, .slice none 0 0, .bool false, .bool false, .slice none 0 0] 39)).heap.size = w.heap.size + 3 by simp] at H
 have I := ichecked_any (n := 2) (c := 2) H rfl (by simp) (by intro p hp; simp only [List.mem_cons, List.not_mem_nil, or_false] at hp; rcases hp with rfl | rfl <;> exact ⟨by dsimp only; omega, by dsimp only; omega⟩)
 rw [errAs_two, if_pos ⟨h1, h2⟩] at I
 obtain ⟨j, m, o, r, s⟩ := hid5 (S.alloc (.cells #[.bool n0, .bool s0, .slice A l0.length a, .bool n1, .bool s1, .slice B l1.length b, .bool m0, .bool t0, .slice C k0.length c, .bool m1, .bool t1, .slice D k1.length d] 39)) (T.alloc (.cells #[.bool n0, .bool s0, .slice A l0.length a, .bool n1, .bool s1, .slice B l1.length b, .bool m0, .bool t0, .slice C k0.length c, .bool m1, .bool t1, .slice D k1.length d] 39)) (U.alloc (.cells #[.bool n0, .bool s0, .slice A l0.length a, .bool n1, .bool s1, .slice B l1.length b, .bool m0, .bool t0, .slice C k0.length c, .bool m1, .bool t1, .slice D k1.length d] 39)) I Q
 obtain ⟨K, u, v, x, y, z, _, _, _, _, _, _, _⟩ := S
 obtain ⟨L, b1, b2, b3, b4, b5, _, _, _, _, _, _, _⟩ := T
 have J := hid (fun (W : World) (h : Below w.heap.size w W) => icrossed_times (u1.below h) (u2.below h) (u3.below h) (u4.below h) h1 h2 q1 q2 q3 q4 hz0 hz1 gm gM e0 e1)
 clear gm gM I Q H u1 u2 u3 u4 h1 h2 q1 q2 q3 q4 hz0 hz1 e0 e1 U F
 go_enter Tryz.func94, Tryz.ntmps94
 go_wp2_with fail
 refine r.out.mono ?_
 rintro e V ⟨rfl, E⟩
 obtain ⟨G, X⟩ := hid2 (from_ s.out E) (o.out.below E)
 clear K u v x y z L b1 b2 b3 b4 b5
 have K := (j.out.below E).all
 have L := (m.out.below E).all
 clear E
 go_wp2_with fail
 refine (J.out _ G.out).mono ?_
 rintro e w2 ⟨M, N, O, P, rfl, Y, Z, E⟩
 have z1 := X.out.lt
 have R := X.out.below E
 obtain ⟨i, U1, U2⟩ := hid3 (R.put (from_ G.out E) (by omega) (.bool rn0) (.bool rs0) (.slice M rl0.length N) (.bool rn1) (.bool rs1) (.slice O rl1.length P)) ((Y.set6 (g := w.heap.size + 2) (fun (h : V.heap.size ≤ w.heap.size + 2) => by omega) (.bool rn0) (.bool rs0) (.slice M rl0.length N) (.bool rn1) (.bool rs1) (.slice O rl1.length P)).mono (new_le G.out.size)) ((Z.set6 (g := w.heap.size + 2) (fun (h : V.heap.size ≤ w.heap.size + 2) => by omega) (.bool rn0) (.bool rs0) (.slice M rl0.length N) (.bool rn1) (.bool rs1) (.slice O rl1.length P)).mono (new_le G.out.size))
 have g0 := R.cf
 clear Y Z E z1 K L
 go_wp2
 refine bodyPost_ret (res_itv2 rfl _ (w.heap.size + 2) rfl i.out.box) rfl ?_
 exact ⟨_, _, _, _, rfl, U1.out, U2.out, i.out.bel⟩
theorem iAdd_good {w : World} {n1 : Bool} 
  (u1 : U64s w Z1 A a l0) (u2 : U64s w Z2 B b l1) (u3 : U64s w Z3 C c k0) (u4 : U64s w Z4 D d k1) (h1 : okA n0 s0 l0 n1 s1 l1 = true) (h2 : okA m0 t0 k0 m1 t1 k1 = true)
  (q1 : l0.length ≤ 6000) (q2 : l1.length ≤ 6000) (q3 : k0.length ≤ 6000) (q4 : k1.length ≤ 6000)
  (hz0 : z0 = plusE bigZ (loV n0 s0 l0) (loV m0 t0 k0)) (hz1 : z1 = plusE bigZ (hiV n1 s1 l1) (hiV m1 t1 k1)) (gm : z0 < bigZ) (gM : -bigZ < z1) (e0 : EndL z0 rn0 rs0 rl0) (e1 : EndH z1 rn1 rs1 rl1) :
  Calls Tryz.prog 95 #[.agg #[.bool n0, .bool s0, .slice A l0.length a, .bool n1, .bool s1, .slice B l1.length b], .agg #[.bool m0, .bool t0, .slice C k0.length c, .bool m1, .bool t1, .slice D k1.length d]] w fun e w' => ∃ rA ra rB rb, e = .returned (.tuple #[.agg #[.bool rn0, .bool rs0, .slice rA rl0.length ra, .bool rn1, .bool rs1, .slice rB rl1.length rb], .int .i64 0]) ∧ U64s w' (new w.heap.size) rA ra rl0 ∧ U64s w' (new w.heap.size) rB rb rl1 ∧ Below w.heap.size w w' := by
 obtain ⟨bA, bB, bR, L⟩ := boxX w (.bool n0) (.bool s0) (.slice A l0.length a) (.bool n1) (.bool s1) (.slice B l1.length b) (.bool m0) (.bool t0) (.slice C k0.length c) (.bool m1) (.bool t1) (.slice D k1.length d) (.bool false) (.bool false) (.slice none 0 0) (.bool false) (.bool false) (.slice none 0 0) 39
 have Ka := L.alloc L.size (.cells #[.bool n0, .bool s0, .slice A l0.length a, .bool n1, .bool s1, .slice B l1.length b, .bool m0, .bool t0, .slice C k0.length c, .bool m1, .bool t1, .slice D k1.length d] 39)
 have m := given_twoA (p := ⟨n0, s0, l0, n1, s1, l1⟩) (q := ⟨m0, t0, k0, m1, t1, k1⟩) (ty := 39) (u1.below L) (u2.below L) (u3.below L) (u4.below L)
 rw [show (((w.alloc (.cells #[.bool n0, .bool s0, .slice A l0.length a, .bool n1, .bool s1, .slice B l1.length b] 39)).alloc (.cells #[.bool m0, .bool t0, .slice C k0.length c, .bool m1, .bool t1, .slice D k1.length d] 39)).alloc (.cells #[.bool false, .bool false, .slice none 0 0, .bool false, .bool false, .slice none 0 0] 39)).heap.size = w.heap.size + 3 by simp] at m
 have o := ichecked_any (n := 2) (c := 2) m rfl (by simp) (by intro p hp; simp only [List.mem_cons, List.not_mem_nil, or_false] at hp; rcases hp with rfl | rfl <;> exact ⟨by dsimp only; omega, by dsimp only; omega⟩)
 rw [errAs_two, if_pos ⟨h1, h2⟩] at o
 obtain ⟨HA, Kb, F, Kc, Kd⟩ := hid5 (bA.alloc (.cells #[.bool n0, .bool s0, .slice A l0.length a, .bool n1, .bool s1, .slice B l1.length b, .bool m0, .bool t0, .slice C k0.length c, .bool m1, .bool t1, .slice D k1.length d] 39)) (bB.alloc (.cells #[.bool n0, .bool s0, .slice A l0.length a, .bool n1, .bool s1, .slice B l1.length b, .bool m0, .bool t0, .slice C k0.length c, .bool m1, .bool t1, .slice D k1.length d] 39)) (bR.alloc (.cells #[.bool n0, .bool s0, .slice A l0.length a, .bool n1, .bool s1, .slice B l1.length b, .bool m0, .bool t0, .slice C k0.length c, .bool m1, .bool t1, .slice D k1.length d] 39)) o Ka
 have a0 := bA.all
 have b0 := bB.all
 obtain ⟨Ke, Kf⟩ := okA_ends h1
 obtain ⟨Kg, Kh⟩ := okA_ends h2
 obtain ⟨x1, Kv, Kw, Kx, Ky, S⟩ := Plc.ex (-1) n0 s0 l0 A a
 obtain ⟨x2, Kz, KA, KB, KC, T⟩ := Plc.ex 1 n1 s1 l1 B b
 obtain ⟨x3, KD, KE, KF, KG, U⟩ := Plc.ex (-1) m0 t0 k0 C c
 obtain ⟨x4, KH, KI, KJ, KK, V⟩ := Plc.ex 1 m1 t1 k1 D d
 have r := S.lo Ke u1.small (by omega)
 have u := T.hi Kf u2.small (by omega)
 have v := U.lo Kg u3.small (by omega)
 have x := V.hi Kh u4.small (by omega)
 have r1 := S.len
 have r2 := T.len
 have r3 := U.len
 have r4 := V.len
 have v1 := S.u64s u1
 have v2 := T.u64s u2
 have v3 := U.u64s u3
 have v4 := V.u64s u4
 have i1 := lo_range (n := n0) (s := s0) u1.small (by omega)
 have i2 := hi_range (n := n1) (s := s1) u2.small (by omega)
 have i3 := lo_range (n := m0) (s := t0) u3.small (by omega)
 have i4 := hi_range (n := m1) (s := t1) u4.small (by omega)
 obtain ⟨L1, L2, L3, L4⟩ := hid4 (fun (W : World) => ilow_p (w := W) (v3 := .bool n1) (v4 := .bool s1) (v5 := .slice B l1.length b) S) (fun (W : World) => ihigh_p (w := W) (v3 := .bool n0) (v4 := .bool s0) (v5 := .slice A l0.length a) T) (fun (W : World) => ilow_p (w := W) (v3 := .bool m1) (v4 := .bool t1) (v5 := .slice D k1.length d) U) (fun (W : World) => ihigh_p (w := W) (v3 := .bool m0) (v4 := .bool t0) (v5 := .slice C k0.length c) V)
 generalize loV n0 s0 l0 = X1 at *
 generalize hiV n1 s1 l1 = X2 at *
 generalize loV m0 t0 k0 = X3 at *
 generalize hiV m1 t1 k1 = X4 at *
 have y : Ext bigZ (wN 6100) z0 := by rw [hz0]; exact ext_plus (r.ext (by omega)) (v.ext (by omega))
 obtain ⟨y1, M, J, N⟩ : ∃ b s l, Pl z0 b s l := ⟨_, _, _, Pl.all (y.range (by omega))⟩
 have Ko := N.len_of y
 obtain ⟨Ki, Kj, Kk⟩ := e0
 obtain rfl : M = rs0 := N.uniq.2.1.trans Kj.symm
 obtain rfl : J = rl0 := N.uniq.2.2.trans Kk.symm
 have Kp : Hid (∀ W, Below w.heap.size w W → Calls Tryz.prog 147 #[.agg #[.int .i64 x1, .bool Kv, .slice Kx Kw.length Ky], .agg #[.int .i64 x3, .bool KD, .slice KF KE.length KG]] W fun e' w' => ∃ A' c', e' = .returned (.agg #[.int .i64 y1, .bool M, .slice A' J.length c']) ∧ U64s w' (new W.heap.size) A' c' J ∧ Below W.heap.size W w') := fun W g => iplus_p r v N hz0.symm ⟨by omega, by omega⟩ (v1.below g) (v3.below g) (by omega) (by omega)
 have Kq : Hid (∀ W Y D d, U64s W Y D d J → Calls Tryz.prog 138 #[.agg #[.int .i64 y1, .bool M, .slice D J.length d]] W fun e' w' => ∃ A' c', e' = .returned (.agg #[.bool rn0, .bool M, .slice A' J.length c']) ∧ U64s w' (new W.heap.size) A' c' J ∧ Below W.heap.size W w') := fun W Y D d g => ibound_p N ((N.nlo gm).trans Ki.symm) g (by omega)
 have z : Ext bigZ (wN 6100) z1 := by rw [hz1]; exact ext_plus (u.ext (by omega)) (x.ext (by omega))
 obtain ⟨y2, O, K, P⟩ : ∃ b s l, Pl z1 b s l := ⟨_, _, _, Pl.all (z.range (by omega))⟩
 have Kr := P.len_of z
 obtain ⟨Kl, Km, Kn⟩ := e1
 obtain rfl : O = rs1 := P.uniq.2.1.trans Km.symm
 obtain rfl : K = rl1 := P.uniq.2.2.trans Kn.symm
 have Ks : Hid (∀ W, Below w.heap.size w W → Calls Tryz.prog 147 #[.agg #[.int .i64 x2, .bool Kz, .slice KB KA.length KC], .agg #[.int .i64 x4, .bool KH, .slice KJ KI.length KK]] W fun e' w' => ∃ A' c', e' = .returned (.agg #[.int .i64 y2, .bool O, .slice A' K.length c']) ∧ U64s w' (new W.heap.size) A' c' K ∧ Below W.heap.size W w') := fun W g => iplus_p u x P hz1.symm ⟨by omega, by omega⟩ (v2.below g) (v4.below g) (by omega) (by omega)
 have Kt : Hid (∀ W Y D d, U64s W Y D d K → Calls Tryz.prog 138 #[.agg #[.int .i64 y2, .bool O, .slice D K.length d]] W fun e' w' => ∃ A' c', e' = .returned (.agg #[.bool rn1, .bool O, .slice A' K.length c']) ∧ U64s w' (new W.heap.size) A' c' K ∧ Below W.heap.size W w') := fun W Y D d g => ibound_p P ((P.nhi gM).trans Kl.symm) g (by omega)
 clear o Ka m bR L hz0 hz1 gm gM
 clear y N Ko Ki Kj Kk z P Kr Kl Km Kn
 clear u1 u2 u3 u4 Ke Kf Kg Kh S T U V r u v x r1 r2 r3 r4 v1 v2 v3 v4 i1 i2 i3 i4 q1 q2 q3 q4 h1 h2
 go_enter Tryz.func95, Tryz.ntmps95
 go_wp2_with fail
 refine Kc.out.mono ?_
 rintro e w1 ⟨rfl, X⟩
 have H1 := hid (from_ Kd.out X)
 clear a0 b0
 have G := boxT_of (HA.out.below X) (Kb.out.below X)
 replace G := boxT_keep G bdr_
 have H := hid H1.out.drew
 obtain ⟨gR, j⟩ : ∃ gR, gR = w.heap.size + 2 := ⟨_, rfl⟩
 replace F := hid ((F.out.below X).below bdr_)
 rw [← j] at F
 clear X H1 Kd HA Kb Kc
 go_upto_region 4 with fail
 simp only [show w.heap.size + 2 = gR from j.symm, show w.heap.size + 1 + 1 = gR from j.symm]
 have n1 : gR ≠ w.heap.size := by omega
 have n2 : gR ≠ w.heap.size + 1 := by omega
 have n3 : w.heap.size ≤ gR := by omega
 obtain ⟨N1, N2, N3⟩ := hid3 n1 n2 n3
 clear j n1 n2 n3
 first | go_region_held3 (fun w' => D6 w' w.heap.size (.bool n0) (.bool s0) (.slice A l0.length a) (.bool n1) (.bool s1) (.slice B l1.length b) (C6 w' (w.heap.size + 1) (.bool m0) (.bool t0) (.slice C k0.length c) (.bool m1) (.bool t1) (.slice D k1.length d)))
  (first
   | with_reducible exact G
   | with_reducible exact boxT_st6 N1.out N2.out G
   | exact boxT_keep G bal_)
  (first
   | (go_at_call 36; (first | (with_reducible refine (L1.out _).mono ?_) | (with_reducible refine (L3.out _).mono ?_)); rintro e Z ⟨rfl, E⟩; (try replace Q := Q.below E); (try replace R := R.below E); (try replace I := I.below E); replace G := boxT_keep G E; replace F := hid (F.out.below E); replace H := hid (from_ H.out E))
   | (go_at_call 37; (first | (with_reducible refine (L2.out _).mono ?_) | (with_reducible refine (L4.out _).mono ?_)); rintro e Z ⟨rfl, E⟩; (try replace Q := Q.below E); (try replace R := R.below E); (try replace I := I.below E); replace G := boxT_keep G E; replace F := hid (F.out.below E); replace H := hid (from_ H.out E))
   | (go_at_call 147; with_reducible refine (Kp.out _ H.out).mono ?_; rintro e Z ⟨D1, d1, rfl, Q, E⟩; replace G := boxT_keep G E; replace F := hid (F.out.below E); replace H := hid (from_ H.out E))
   | (go_at_call 138; with_reducible refine (Kq.out _ _ _ _ Q).mono ?_; rintro e Z ⟨A1, c1, rfl, I, E⟩; replace I := I.mono (Y := new (gR + 1)) (new_le (Nat.succ_le_of_lt F.out.lt)); replace G := boxT_keep G E; replace F := hid (F.out.below E); replace H := hid (from_ H.out E))
   | (go_at_call 147; with_reducible refine (Ks.out _ H.out).mono ?_; rintro e Z ⟨D2, d2, rfl, R, E⟩; (try replace I := I.below E); replace G := boxT_keep G E; replace F := hid (F.out.below E); replace H := hid (from_ H.out E))
   | (go_at_call 138; with_reducible refine (Kt.out _ _ _ _ R).mono ?_; rintro e Z ⟨A2, c2, rfl, i, E⟩; replace i := i.mono (Y := new (gR + 1)) (new_le (Nat.succ_le_of_lt F.out.lt)); (try replace I := I.below E); replace G := boxT_keep G E; replace F := hid (F.out.below E); replace H := hid (from_ H.out E); have g0 := F.out.cf)) | fail
 all_goals
  obtain ⟨HP, U1, U2⟩ := hid3 (F.out.put H.out N3.out (.bool rn0) (.bool M) (.slice A1 J.length c1) (.bool rn1) (.bool O) (.slice A2 K.length c2)) ((I.set6 (g := gR) (fun (h : gR + 1 ≤ gR) => by omega) (.bool rn0) (.bool M) (.slice A1 J.length c1) (.bool rn1) (.bool O) (.slice A2 K.length c2)).mono (new_le (show w.heap.size ≤ gR + 1 from Nat.le_succ_of_le N3.out))) ((i.set6 (g := gR) (fun (h : gR + 1 ≤ gR) => by omega) (.bool rn0) (.bool M) (.slice A1 J.length c1) (.bool rn1) (.bool O) (.slice A2 K.length c2)).mono (new_le (show w.heap.size ≤ gR + 1 from Nat.le_succ_of_le N3.out)))
  clear I i
  go_wp2
  refine bodyPost_ret (res_itv2 rfl _ gR rfl HP.out.box) rfl ?_
  exact ⟨_, _, _, _, rfl, U1.out, U2.out, HP.out.bel⟩
theorem box6_keep (hs : C6 W g a0 a1 a2 a3 a4 a5) (hb : Below W.heap.size W W') :
  C6 W' g a0 a1 a2 a3 a4 a5 := by
 obtain ⟨A, B, C, D, E, F⟩ := hs
 exact ⟨keepC hb A, keepC hb B, keepC hb C, keepC hb D, keepC hb E, keepC hb F⟩
theorem box6_st6 {r : Nat} {x0 x1 x2 x3 x4 x5 : Value} (hg : r ≠ g)
  (hs : C6 W g a0 a1 a2 a3 a4 a5) :
  let V := ((((((W.setCell ⟨r, 0, none⟩ x0).setCell ⟨r, 1, none⟩ x1).setCell ⟨r, 2, none⟩ x2).setCell ⟨r, 3, none⟩ x3).setCell ⟨r, 4, none⟩ x4).setCell ⟨r, 5, none⟩ x5)
  C6 V g a0 a1 a2 a3 a4 a5 := by
 obtain ⟨A, B, C, D, E, F⟩ := hs
 exact ⟨st6 A hg, st6 B hg, st6 C hg, st6 D hg, st6 E hg, st6 F hg⟩
theorem iNeg_good {w : World} {n1 : Bool} (u1 : U64s w Z1 A a l0) (u2 : U64s w Z2 B b l1) (h1 : okA n0 s0 l0 n1 s1 l1 = true) (q1 : l0.length ≤ 6000) (q2 : l1.length ≤ 6000)
  (hz0 : z0 = -hiV n1 s1 l1) (hz1 : z1 = -loV n0 s0 l0) (e0 : EndL z0 rn0 rs0 rl0) (e1 : EndH z1 rn1 rs1 rl1) :
  Calls Tryz.prog 129 #[.agg #[.bool n0, .bool s0, .slice A l0.length a, .bool n1, .bool s1, .slice B l1.length b]] w fun e w' => ∃ rA ra rB rb, e = .returned (.tuple #[.agg #[.bool rn0, .bool rs0, .slice rA rl0.length ra, .bool rn1, .bool rs1, .slice rB rl1.length rb], .int .i64 0]) ∧ U64s w' (new w.heap.size) rA ra rl0 ∧ U64s w' (new w.heap.size) rB rb rl1 ∧ Below w.heap.size w w' := by
 obtain ⟨bA, bR, i⟩ := boxT w (.bool n0) (.bool s0) (.slice A l0.length a) (.bool n1) (.bool s1) (.slice B l1.length b) (.bool false) (.bool false) (.slice none 0 0) (.bool false) (.bool false) (.slice none 0 0) 39
 have u := icheck_any (n0 := n0) (s0 := s0) (n1 := n1) (s1 := s1) (u1.below i) (u2.below i) (by omega) (by omega)
 rw [show errA n0 s0 l0 n1 s1 l1 = 0 by unfold errA; rw [if_pos h1]] at u
 obtain ⟨Kb, Kc⟩ := okA_ends h1
 obtain ⟨x1, Kj, Kk, Kl, Km, S⟩ := Plc.ex (-1) n0 s0 l0 A a
 obtain ⟨x2, Kn, Ko, Kp, Kq, T⟩ := Plc.ex 1 n1 s1 l1 B b
 have v := S.lo Kb u1.small q1
 have y := T.hi Kc u2.small q2
 have r1 := S.len
 have r2 := T.len
 have Z := S.u64s u1
 have d := T.u64s u2
 have i1 := lo_range (n := n0) (s := s0) u1.small q1
 have i2 := hi_range (n := n1) (s := s1) u2.small q2
 obtain ⟨L1, L2⟩ := hid2 (fun (W : World) => ilow_p (w := W) (v3 := .bool n1) (v4 := .bool s1) (v5 := .slice B l1.length b) S) (fun (W : World) => ihigh_p (w := W) (v3 := .bool n0) (v4 := .bool s0) (v5 := .slice A l0.length a) T)
 have w1 := okA_le h1 u1.small u2.small q1 q2
 generalize loV n0 s0 l0 = X1 at *
 generalize hiV n1 s1 l1 = X2 at *
 obtain ⟨M, O, G, j⟩ : ∃ b s l, Pl (-X1) b s l := ⟨_, _, _, Pl.all (by omega)⟩
 obtain ⟨P, Q, H, o⟩ : ∃ b s l, Pl (-X2) b s l := ⟨_, _, _, Pl.all (by omega)⟩
 have Ke := j.len_of ((v.ext (N := 6000) (by omega)).neg)
 have Kf := o.len_of ((y.ext (N := 6000) (by omega)).neg)
 have Kg : Hid (∀ W, Below w.heap.size w W → Calls Tryz.prog 168 #[.agg #[.int .i64 x1, .bool Kj, .slice Kl Kk.length Km]] W fun e' w' => ∃ A' c', e' = .returned (.agg #[.int .i64 M, .bool O, .slice A' G.length c']) ∧ U64s w' (new W.heap.size) A' c' G ∧ Below W.heap.size W w') := fun W g => iturned_p v j (Z.below g) (by omega)
 have Kh : Hid (∀ W, Below w.heap.size w W → Calls Tryz.prog 168 #[.agg #[.int .i64 x2, .bool Kn, .slice Kp Ko.length Kq]] W fun e' w' => ∃ A' c', e' = .returned (.agg #[.int .i64 P, .bool Q, .slice A' H.length c']) ∧ U64s w' (new W.heap.size) A' c' H ∧ Below W.heap.size W w') := fun W g => iturned_p y o (d.below g) (by omega)
 have Ki : Hid (∀ (W : World) (ty : TypeId) (Z5 Z6 : Zone) (U X : Option Addr) (V Y : Nat), U64s W Z5 U V G → U64s W Z6 X Y H → Calls Tryz.prog 144 #[.slice (some ⟨W.heap.size, 0, none⟩) 2 2] (W.alloc (.cells #[.int .i64 M, .bool O, .slice U G.length V, .int .i64 P, .bool Q, .slice X H.length Y] ty)) fun e w' => ∃ I J K L, e = .returned (.agg #[.bool rn0, .bool rs0, .slice I rl0.length J, .bool rn1, .bool rs1, .slice K rl1.length L]) ∧ U64s w' (new W.heap.size) I J rl0 ∧ U64s w' (new W.heap.size) K L rl1 ∧ Below W.heap.size W w') := fun W ty Z5 Z6 U X V Y g1 g2 => by
  have z : Below W.heap.size W (W.alloc (.cells #[.int .i64 M, .bool O, .slice U G.length V, .int .i64 P, .bool Q, .slice X H.length Y] ty)) := (Below.refl _ W).alloc (Nat.le_refl _) _
  have m1 := ends_of (ps := [⟨-X1, M, O, G⟩, ⟨-X2, P, Q, H⟩]) (m := z0) ⟨fun x hx => by simp only [List.map_cons, List.map_nil, List.mem_cons, List.not_mem_nil, or_false] at hx; omega, by simp only [List.map_cons, List.map_nil, List.mem_cons, List.not_mem_nil, or_false]; omega⟩
  have m2 := ends_of' (ps := [⟨-X1, M, O, G⟩, ⟨-X2, P, Q, H⟩]) (m := z1) ⟨fun x hx => by simp only [List.map_cons, List.map_nil, List.mem_cons, List.not_mem_nil, or_false] at hx; omega, by simp only [List.map_cons, List.map_nil, List.mem_cons, List.not_mem_nil, or_false]; omega⟩
  refine (icorners_p (n := 2) (c := 2) (given2 (p := ⟨-X1, M, O, G⟩) (q := ⟨-X2, P, Q, H⟩) j o g1 g2 (by dsimp only; omega) (by dsimp only; omega)) rfl (by simp) m1.1 m1.2 m2.1 m2.2 (by omega) (by omega) e0 e1).mono ?_
  rintro e w' ⟨I, J, K, L, rfl, Z, d, hb⟩
  exact ⟨I, J, K, L, rfl, Z.mono (new_le z.size), d.mono (new_le z.size), from_ z hb⟩
 obtain ⟨Kd, HB, HA, D⟩ := hid4 u i bA bR
 have a0 := bA.all
 clear u i bR u1 u2 h1 q1 q2 hz0 hz1 e0 e1 Kb Kc S T v y r1 r2 Z d i1 i2 w1 j o Ke Kf
 go_enter Tryz.func129, Tryz.ntmps129
 go_wp2_with fail
 refine Kd.out.mono ?_
 rintro e w1 ⟨rfl, r⟩
 have H1 := hid (from_ HB.out r)
 clear a0
 have E := (HA.out.below r).all
 replace E := box6_keep E bdr_
 have F := hid H1.out.drew
 obtain ⟨gR, Ka⟩ : ∃ gR, gR = w.heap.size + 1 := ⟨_, rfl⟩
 replace D := hid ((D.out.below r).below bdr_)
 rw [← Ka] at D
 clear r H1 HB HA Kd
 go_upto_region 4 with fail
 simp only [show w.heap.size + 1 = gR from Ka.symm]
 have n1 : gR ≠ w.heap.size := by omega
 have n3 : w.heap.size ≤ gR := by omega
 obtain ⟨N1, N3⟩ := hid2 n1 n3
 clear Ka n1 n3
 first | go_region_held3 (fun w' => C6 w' w.heap.size (.bool n0) (.bool s0) (.slice A l0.length a) (.bool n1) (.bool s1) (.slice B l1.length b))
  (first
   | with_reducible exact E
   | with_reducible exact box6_st6 N1.out E
   | exact box6_keep E bal_)
  (first
   | (go_at_call 36; with_reducible refine (L1.out _).mono ?_; rintro e w2 ⟨rfl, C⟩; replace E := box6_keep E C; replace D := hid (D.out.below C); replace F := hid (from_ F.out C))
   | (go_at_call 37; with_reducible refine (L2.out _).mono ?_; rintro e w2 ⟨rfl, C⟩; (try replace R := R.below C); replace E := box6_keep E C; replace D := hid (D.out.below C); replace F := hid (from_ F.out C))
   | (go_at_call 168; with_reducible refine (Kg.out _ F.out).mono ?_; rintro e w2 ⟨U, V, rfl, R, C⟩; replace E := box6_keep E C; replace D := hid (D.out.below C); replace F := hid (from_ F.out C))
   | (go_at_call 168; with_reducible refine (Kh.out _ F.out).mono ?_; rintro e w2 ⟨X, Y, rfl, Kr, C⟩; (try replace R := R.below C); replace E := box6_keep E C; replace D := hid (D.out.below C); replace F := hid (from_ F.out C))
   | (go_at_call 144; with_reducible refine (Ki.out _ _ _ _ _ _ _ _ R Kr).mono ?_; rintro e w3 ⟨I, J, K, L, rfl, o1, o2, C⟩; replace E := box6_keep E C; have zl := D.out.lt; replace D := hid (D.out.below C); have Hp := F; replace F := hid (from_ F.out C); have g0 := D.out.cf)) | fail
 all_goals
  obtain ⟨HP, U1, U2⟩ := hid3 (D.out.put F.out N3.out (.bool rn0) (.bool rs0) (.slice I rl0.length J) (.bool rn1) (.bool rs1) (.slice K rl1.length L)) ((o1.set6 (g := gR) (fun (h : _ ≤ gR) => by omega) (.bool rn0) (.bool rs0) (.slice I rl0.length J) (.bool rn1) (.bool rs1) (.slice K rl1.length L)).mono (new_le Hp.out.size)) ((o2.set6 (g := gR) (fun (h : _ ≤ gR) => by omega) (.bool rn0) (.bool rs0) (.slice I rl0.length J) (.bool rn1) (.bool rs1) (.slice K rl1.length L)).mono (new_le Hp.out.size))
  clear o1 o2
  go_wp2
  refine bodyPost_ret (res_itv2 rfl _ gR rfl HP.out.box) rfl ?_
  exact ⟨_, _, _, _, rfl, U1.out, U2.out, HP.out.bel⟩
theorem iMeet_good {w : World} {n1 : Bool} 
  (u1 : U64s w Z1 A a l0) (u2 : U64s w Z2 B b l1) (u3 : U64s w Z3 C c k0) (u4 : U64s w Z4 D d k1) (h1 : okA n0 s0 l0 n1 s1 l1 = true) (h2 : okA m0 t0 k0 m1 t1 k1 = true)
  (q1 : l0.length ≤ 6000) (q2 : l1.length ≤ 6000) (q3 : k0.length ≤ 6000) (q4 : k1.length ≤ 6000)
  (hz0 : z0 = max (loV n0 s0 l0) (loV m0 t0 k0)) (hz1 : z1 = min (hiV n1 s1 l1) (hiV m1 t1 k1)) (e0 : EndL z0 rn0 rs0 rl0) (e1 : EndH z1 rn1 rs1 rl1) (hg : z0 ≤ z1) :
  Calls Tryz.prog 32 #[.agg #[.bool n0, .bool s0, .slice A l0.length a, .bool n1, .bool s1, .slice B l1.length b], .agg #[.bool m0, .bool t0, .slice C k0.length c, .bool m1, .bool t1, .slice D k1.length d]] w fun e w' => ∃ rA ra rB rb, e = .returned (.tuple #[.agg #[.bool rn0, .bool rs0, .slice rA rl0.length ra, .bool rn1, .bool rs1, .slice rB rl1.length rb], .int .i64 0]) ∧ U64s w' (new w.heap.size) rA ra rl0 ∧ U64s w' (new w.heap.size) rB rb rl1 ∧ Below w.heap.size w w' := by
 obtain ⟨U, V, X, F⟩ := boxX w (.bool n0) (.bool s0) (.slice A l0.length a) (.bool n1) (.bool s1) (.slice B l1.length b) (.bool m0) (.bool t0) (.slice C k0.length c) (.bool m1) (.bool t1) (.slice D k1.length d) (.bool false) (.bool false) (.slice none 0 0) (.bool false) (.bool false) (.slice none 0 0) 39
 have S := F.alloc F.size (.cells #[.bool n0, .bool s0, .slice A l0.length a, .bool n1, .bool s1, .slice B l1.length b, .bool m0, .bool t0, .slice C k0.length c, .bool m1, .bool t1, .slice D k1.length d] 39)
 have N := given_twoA (p := ⟨n0, s0, l0, n1, s1, l1⟩) (q := ⟨m0, t0, k0, m1, t1, k1⟩) (ty := 39) (u1.below F) (u2.below F) (u3.below F) (u4.below F)
 rw [show (((w.alloc (.cells #[.bool n0, .bool s0, .slice A l0.length a, .bool n1, .bool s1, .slice B l1.length b] 39)).alloc (.cells #[.bool m0, .bool t0, .slice C k0.length c, .bool m1, .bool t1, .slice D k1.length d] 39)).alloc (.cells #[.bool false, .bool false, .slice none 0 0, .bool false, .bool false, .slice none 0 0] 39)).heap.size = w.heap.size + 3 by simp] at N
 have O := ichecked_any (n := 2) (c := 2) N rfl (by simp) (by intro p hp; simp only [List.mem_cons, List.not_mem_nil, or_false] at hp; rcases hp with rfl | rfl <;> exact ⟨by dsimp only; omega, by dsimp only; omega⟩)
 rw [errAs_two, if_pos ⟨h1, h2⟩] at O
 obtain ⟨o, r, s, u, v⟩ := hid5 (U.alloc (.cells #[.bool n0, .bool s0, .slice A l0.length a, .bool n1, .bool s1, .slice B l1.length b, .bool m0, .bool t0, .slice C k0.length c, .bool m1, .bool t1, .slice D k1.length d] 39)) (V.alloc (.cells #[.bool n0, .bool s0, .slice A l0.length a, .bool n1, .bool s1, .slice B l1.length b, .bool m0, .bool t0, .slice C k0.length c, .bool m1, .bool t1, .slice D k1.length d] 39)) (X.alloc (.cells #[.bool n0, .bool s0, .slice A l0.length a, .bool n1, .bool s1, .slice B l1.length b, .bool m0, .bool t0, .slice C k0.length c, .bool m1, .bool t1, .slice D k1.length d] 39)) O S
 obtain ⟨P, x, y, z, a4, a5, _, _, _, _, _, _, _⟩ := U
 obtain ⟨Q, b1, b2, b3, b4, b5, _, _, _, _, _, _, _⟩ := V
 have J := hid (fun (W : World) (h : Below w.heap.size w W) => imeet_p (u1.below h) (u2.below h) (u3.below h) (u4.below h) h1 h2 q1 q2 q3 q4 hz0 hz1 e0 e1 (g := true) (decide_eq_true hg))
 clear O S N u1 u2 u3 u4 h1 h2 q1 q2 q3 q4 hz0 hz1 e0 e1 hg X F
 go_enter Tryz.func32, Tryz.ntmps32
 go_wp2_with fail
 refine u.out.mono ?_
 rintro e Y ⟨rfl, E⟩
 obtain ⟨M, Z⟩ := hid2 (from_ v.out E) (s.out.below E)
 clear P x y z a4 a5 Q b1 b2 b3 b4 b5
 have P := (o.out.below E).all
 have Q := (r.out.below E).all
 clear E
 go_wp2_with fail
 refine (J.out _ M.out).mono ?_
 rintro e R ⟨hx, hy, E⟩
 obtain ⟨H, I, K, L, rfl, i, j⟩ := hx (by first | rfl | trivial)
 clear hy
 have z1 := Z.out.lt
 have G := (Below.refl R.heap.size R).alloc (Nat.le_refl _) (.cells #[.bool rn0, .bool rs0, .slice H rl0.length I, .bool rn1, .bool rs1, .slice K rl1.length L] 39)
 have T := (Z.out.below E).below G
 obtain ⟨m, U1, U2⟩ := hid3 (T.put (from_ (from_ M.out E) G) (by omega) (.bool rn0) (.bool rs0) (.slice H rl0.length I) (.bool rn1) (.bool rs1) (.slice K rl1.length L)) (((i.below G).set6 (g := w.heap.size + 2) (fun (h : Y.heap.size ≤ w.heap.size + 2) => by omega) (.bool rn0) (.bool rs0) (.slice H rl0.length I) (.bool rn1) (.bool rs1) (.slice K rl1.length L)).mono (new_le M.out.size)) (((j.below G).set6 (g := w.heap.size + 2) (fun (h : Y.heap.size ≤ w.heap.size + 2) => by omega) (.bool rn0) (.bool rs0) (.slice H rl0.length I) (.bool rn1) (.bool rs1) (.slice K rl1.length L)).mono (new_le M.out.size))
 obtain ⟨Ka, Kb, Kc, Kd, Ke, Kf, _, _, _, _, _, _, _⟩ := Box6.new R (.bool rn0) (.bool rs0) (.slice H rl0.length I) (.bool rn1) (.bool rs1) (.slice K rl1.length L) 39
 have g0 := T.cf
 clear i j E z1 G P Q
 go_wp2
 refine bodyPost_ret (res_itv2 rfl _ (w.heap.size + 2) rfl m.out.box) rfl ?_
 exact ⟨_, _, _, _, rfl, U1.out, U2.out, m.out.bel⟩
theorem iMeet_none {w : World} {n1 : Bool} 
  (u1 : U64s w Z1 A a l0) (u2 : U64s w Z2 B b l1) (u3 : U64s w Z3 C c k0) (u4 : U64s w Z4 D d k1) (h1 : okA n0 s0 l0 n1 s1 l1 = true) (h2 : okA m0 t0 k0 m1 t1 k1 = true)
  (q1 : l0.length ≤ 6000) (q2 : l1.length ≤ 6000) (q3 : k0.length ≤ 6000) (q4 : k1.length ≤ 6000)
  (hz0 : z0 = max (loV n0 s0 l0) (loV m0 t0 k0)) (hz1 : z1 = min (hiV n1 s1 l1) (hiV m1 t1 k1)) (e0 : EndL z0 rn0 rs0 rl0) (e1 : EndH z1 rn1 rs1 rl1) (hg : z1 < z0) :
  Calls Tryz.prog 32 #[.agg #[.bool n0, .bool s0, .slice A l0.length a, .bool n1, .bool s1, .slice B l1.length b], .agg #[.bool m0, .bool t0, .slice C k0.length c, .bool m1, .bool t1, .slice D k1.length d]] w fun e w' => e = .returned (.tuple #[.agg #[.bool false, .bool false, .slice none 0 0, .bool false, .bool false, .slice none 0 0], .int .i64 6]) ∧ Below w.heap.size w w' := by
 obtain ⟨Q, R, S, F⟩ := boxX w (.bool n0) (.bool s0) (.slice A l0.length a) (.bool n1) (.bool s1) (.slice B l1.length b) (.bool m0) (.bool t0) (.slice C k0.length c) (.bool m1) (.bool t1) (.slice D k1.length d) (.bool false) (.bool false) (.slice none 0 0) (.bool false) (.bool false) (.slice none 0 0) 39
 have N := F.alloc F.size (.cells #[.bool n0, .bool s0, .slice A l0.length a, .bool n1, .bool s1, .slice B l1.length b, .bool m0, .bool t0, .slice C k0.length c, .bool m1, .bool t1, .slice D k1.length d] 39)
 have G := given_twoA (p := ⟨n0, s0, l0, n1, s1, l1⟩) (q := ⟨m0, t0, k0, m1, t1, k1⟩) (ty := 39) (u1.below F) (u2.below F) (u3.below F) (u4.below F)
 rw [show (((w.alloc (.cells #[.bool n0, .bool s0, .slice A l0.length a, .bool n1, .bool s1, .slice B l1.length b] 39)).alloc (.cells #[.bool m0, .bool t0, .slice C k0.length c, .bool m1, .bool t1, .slice D k1.length d] 39)).alloc (.cells #[.bool false, .bool false, .slice none 0 0, .bool false, .bool false, .slice none 0 0] 39)).heap.size = w.heap.size + 3 by simp] at G
 have H := ichecked_any (n := 2) (c := 2) G rfl (by simp) (by intro p hp; simp only [List.mem_cons, List.not_mem_nil, or_false] at hp; rcases hp with rfl | rfl <;> exact ⟨by dsimp only; omega, by dsimp only; omega⟩)
 rw [errAs_two, if_pos ⟨h1, h2⟩] at H
 obtain ⟨V, X, Y, Z, i⟩ := hid5 (Q.alloc (.cells #[.bool n0, .bool s0, .slice A l0.length a, .bool n1, .bool s1, .slice B l1.length b, .bool m0, .bool t0, .slice C k0.length c, .bool m1, .bool t1, .slice D k1.length d] 39)) (R.alloc (.cells #[.bool n0, .bool s0, .slice A l0.length a, .bool n1, .bool s1, .slice B l1.length b, .bool m0, .bool t0, .slice C k0.length c, .bool m1, .bool t1, .slice D k1.length d] 39)) (S.alloc (.cells #[.bool n0, .bool s0, .slice A l0.length a, .bool n1, .bool s1, .slice B l1.length b, .bool m0, .bool t0, .slice C k0.length c, .bool m1, .bool t1, .slice D k1.length d] 39)) H N
 obtain ⟨I, j, m, o, r, s, _, _, _, _, _, _, _⟩ := Q
 obtain ⟨K, u, v, x, y, z, _, _, _, _, _, _, _⟩ := R
 have J := hid (fun (W : World) (h : Below w.heap.size w W) => imeet_p (u1.below h) (u2.below h) (u3.below h) (u4.below h) h1 h2 q1 q2 q3 q4 hz0 hz1 e0 e1 (g := false) (decide_eq_false (by omega)))
 clear H N G u1 u2 u3 u4 h1 h2 q1 q2 q3 q4 hz0 hz1 e0 e1 hg S F
 go_enter Tryz.func32, Tryz.ntmps32
 go_wp2_with fail
 refine Z.out.mono ?_
 rintro e w1 ⟨rfl, E⟩
 obtain ⟨T, U⟩ := hid2 (from_ i.out E) (Y.out.below E)
 clear I j m o r s K u v x y z
 have I := (V.out.below E).all
 have K := (X.out.below E).all
 clear E
 go_wp2_with fail
 refine (J.out _ T.out).mono ?_
 rintro e M ⟨hx, hy, E⟩
 obtain rfl := hy (by first | rfl | trivial)
 clear hx
 have z1 := U.out.lt
 have L := (Below.refl M.heap.size M).alloc (Nat.le_refl _) (.cells #[.bool false, .bool false, .slice none 0 0, .bool false, .bool false, .slice none 0 0] 39)
 have O := (U.out.below E).below L
 have P := hid (O.put (from_ (from_ T.out E) L) (by omega) (.bool false) (.bool false) (.slice none 0 0) (.bool false) (.bool false) (.slice none 0 0))
 obtain ⟨Ka, Kb, Kc, Kd, Ke, Kf, _, _, _, _, _, _, _⟩ := Box6.new M (.bool false) (.bool false) (.slice none 0 0) (.bool false) (.bool false) (.slice none 0 0) 39
 have g0 := O.cf
 clear E z1 L I K
 go_wp2
 refine bodyPost_ret (res_itv2 rfl _ (w.heap.size + 2) rfl P.out.box) rfl ?_
 exact ⟨rfl, P.out.bel⟩
theorem ext_over (hx : Ext bigZ (wN N) x) : Ext bigZ (wN N) (overE bigZ x y) := by
 have A := wN_pos N
 unfold overE
 split
 · exact .inr (.inr (by omega))
 · split
   · split
     · exact .inl rfl
     · exact .inr (.inl rfl)
   · exact .inr (.inr (tdiv_bd (by unfold Ext at hx; omega)))
theorem ext_down (hx : Ext bigZ (wN N) x) (hy : 0 < y) : Ext bigZ (wN N) (downE bigZ x y) := by
 unfold downE
 split
 · exact hx
 · exact .inr (.inr (fdiv_bd (by unfold Ext at hx; omega) hy))
def divLo (x y z t : Int) : Int := lo4 (overE bigZ x z) (overE bigZ x t) (overE bigZ y z) (overE bigZ y t)
def divHi (x y z t : Int) : Int := hi4 (overE bigZ x z) (overE bigZ x t) (overE bigZ y z) (overE bigZ y t)
theorem over_lt (hx : Ext bigZ (wN N) x) (hN : N ≤ 6000) (hy : y ≠ 0) (h : x < bigZ ∧ 0 < y ∨ -bigZ < x ∧ y < 0) : overE bigZ x y < bigZ := by
 have A := bigZ_pos
 have B := wN_le (show N ≤ 6400 by omega)
 unfold overE
 split
 · omega
 · split
   · rw [if_neg (by omega)]; omega
   · have := tdiv_bd (x := x) (y := y) (M := wN N) (by unfold Ext at hx; omega)
     omega
theorem over_gt (hx : Ext bigZ (wN N) x) (hN : N ≤ 6000) (hy : y ≠ 0) (h : x < bigZ ∧ y < 0 ∨ -bigZ < x ∧ 0 < y) : -bigZ < overE bigZ x y := by
 have A := bigZ_pos
 have B := wN_le (show N ≤ 6400 by omega)
 unfold overE
 split
 · omega
 · split
   · rw [if_pos (by omega)]; omega
   · have := tdiv_bd (x := x) (y := y) (M := wN N) (by unfold Ext at hx; omega)
     omega
theorem ivn_over {t : Int} (h : IvN N x y) (g : IvN M z t) (h0 : 0 < z ∨ t < 0) (hN : N ≤ 6000) : IvN N (divLo x y z t) (divHi x y z t) := by
 obtain ⟨A, B, F, C, D⟩ := h
 have E := g.le
 refine ⟨?_, ?_, ?_, ?_, ?_⟩
 · exact ext_min (ext_min (ext_over A) (ext_over A)) (ext_min (ext_over B) (ext_over B))
 · exact ext_max (ext_max (ext_over A) (ext_over A)) (ext_max (ext_over B) (ext_over B))
 · unfold divLo divHi lo4 hi4; omega
 · unfold divLo lo4
   rcases h0 with h0 | h0
   · have := over_lt (y := z) A hN (by omega) (.inl ⟨C, h0⟩)
     omega
   · have := over_lt (y := t) B hN (by omega) (.inr ⟨D, h0⟩)
     omega
 · unfold divHi hi4
   rcases h0 with h0 | h0
   · have := over_gt (y := z) B hN (by omega) (.inr ⟨D, h0⟩)
     omega
   · have := over_gt (y := t) A hN (by omega) (.inl ⟨C, h0⟩)
     omega
def partsP (P : Int × Int) : List (Int × Int) := (if P.1 ≤ -1 then [(P.1, min P.2 (-1))] else []) ++ (if 1 ≤ P.2 then [(max P.1 1, P.2)] else [])
theorem parts_ok {P : Int × Int} (h : IvN N P.1 P.2) (hN : 1 ≤ N) : ∀ Q ∈ partsP P, IvN N Q.1 Q.2 ∧ (0 < Q.1 ∨ Q.2 < 0) := fun Q hQ => by
 obtain ⟨A, B, H, I, J⟩ := h
 have E := bigZ_pos
 have F : (1 : Int) < wN N := by
  have := wN_mono hN
  have e : wN 1 = 18446744073709551616 := wN_one
  omega
 have G : (1 : Int) < bigZ := by
  have := wN_le (show 1 ≤ 6400 by omega)
  have e : wN 1 = 18446744073709551616 := wN_one
  omega
 have C : Ext bigZ (wN N) (-1) := .inr (.inr (by omega))
 have D : Ext bigZ (wN N) 1 := .inr (.inr (by omega))
 unfold partsP at hQ
 rw [List.mem_append] at hQ
 rcases hQ with hQ | hQ
 · split at hQ
   · rw [List.mem_singleton] at hQ
     subst hQ
     exact ⟨⟨A, ext_min B C, by dsimp only; omega, by dsimp only; omega, by dsimp only; omega⟩, .inr (by dsimp only; omega)⟩
   · cases hQ
 · split at hQ
   · rw [List.mem_singleton] at hQ
     subst hQ
     exact ⟨⟨ext_max A D, B, by dsimp only; omega, by dsimp only; omega, by dsimp only; omega⟩, .inl (by dsimp only; omega)⟩
   · cases hQ
theorem parts_nil {P : Int × Int} (h : P.1 ≤ P.2) : partsP P = [] ↔ P.1 = 0 ∧ P.2 = 0 := by
 unfold partsP
 by_cases h1 : P.1 ≤ -1 <;> by_cases h2 : 1 ≤ P.2 <;> simp [h1, h2] <;> omega
def ivJ (p q : Int × Int) : Int × Int := (min p.1 q.1, max p.2 q.2)
theorem ivJ_ok {p q : Int × Int} (h : IvN N p.1 p.2) (g : IvN N q.1 q.2) : IvN N (ivJ p q).1 (ivJ p q).2 := by
 obtain ⟨A, B, E, F, G⟩ := h
 obtain ⟨C, D, H, I, J⟩ := g
 exact ⟨ext_min A C, ext_max B D, by dsimp only [ivJ]; omega, by dsimp only [ivJ]; omega, by dsimp only [ivJ]; omega⟩
def ivD1 (A Q : Int × Int) : Int × Int := (divLo A.1 A.2 Q.1 Q.2, divHi A.1 A.2 Q.1 Q.2)
def ivD (A B : Int × Int) : Int × Int := match partsP B with
 | [] => (0, 0)
 | Q :: t => t.foldl (fun o q => ivJ o (ivD1 A q)) (ivD1 A Q)
abbrev IvP := Int × Int
variable {P Q : IvP}
def ivA (p q : IvP) : IvP := (plusE bigZ p.1 q.1, plusE bigZ p.2 q.2)
def ivM (p q : IvP) : IvP := (mulLo p.1 p.2 q.1 q.2, mulHi p.1 p.2 q.1 q.2)
def ivNg (p : IvP) : IvP := (-p.2, -p.1)
theorem ivA_ok {p q : IvP} (h : IvN N p.1 p.2) (g : IvN N q.1 q.2) (hN : N ≤ 6000) : IvN (N + 1) (ivA p q).1 (ivA p q).2 := ivn_plus h g hN
theorem ivM_ok {p q : IvP} (h : IvN N p.1 p.2) (g : IvN M q.1 q.2) (hN : N + M ≤ 6400) : IvN (N + M) (ivM p q).1 (ivM p q).2 := ivn_times h g hN
theorem ivNg_ok {p : IvP} (h : IvN N p.1 p.2) : IvN N (ivNg p).1 (ivNg p).2 := ivn_neg h
def IvW (P : IvP) (q : Iv) : Prop := EndL P.1 q.n0 q.s0 q.l0 ∧ EndH P.2 q.n1 q.s1 q.l1
theorem IvW.mk (P : IvP) : IvW P (ivOf P.1 P.2) := ⟨⟨rfl, rfl, rfl⟩, rfl, rfl, rfl⟩
theorem IvW.uniq {p : Iv} (h : IvW P p) (g : IvW P q) : p = q := by
 obtain ⟨⟨A, B, C⟩, D, E, F⟩ := h
 obtain ⟨⟨G, H, I⟩, J, K, L⟩ := g
 cases p
 cases q
 simp only at *
 subst A B C D E F G H I J K L
 rfl
theorem lo_e (h : -bigZ ≤ x ∧ x < bigZ) : loV (nLo x) (sE x) (lE x) = x ∧ okE (nLo x) (sE x) (lE x) = true := by
 have D := bigZ_pos
 by_cases hx : x = -bigZ
 · have B : nLo x = true := decide_eq_true hx
   have A : sE x = false := decide_eq_false (by omega)
   have C : lE x = [] := by unfold lE; rw [if_neg (by omega)]
   rw [B, A, C]
   exact ⟨hx.symm, rfl⟩
 · have B : nLo x = false := decide_eq_false hx
   have A := nm_e (n := x) ⟨by omega, h.2⟩
   rw [B, A.1, A.2]
   exact ⟨zof_z x, IsZ.ok x⟩
theorem hi_e (h : -bigZ < x ∧ x ≤ bigZ) : hiV (nHi x) (sE x) (lE x) = x ∧ okE (nHi x) (sE x) (lE x) = true := by
 have D := bigZ_pos
 by_cases hx : x = bigZ
 · have B : nHi x = true := decide_eq_true hx
   have A : sE x = false := decide_eq_false (by omega)
   have C : lE x = [] := by unfold lE; rw [if_neg (by omega)]
   rw [B, A, C]
   exact ⟨hx.symm, rfl⟩
 · have B : nHi x = false := decide_eq_false hx
   have A := nm_e (n := x) ⟨h.1, by omega⟩
   rw [B, A.1, A.2]
   exact ⟨zof_z x, IsZ.ok x⟩
structure IvK (N : Nat) (P : IvP) (p : Iv) : Prop where
 ok : okA p.n0 p.s0 p.l0 p.n1 p.s1 p.l1 = true
 lo : loV p.n0 p.s0 p.l0 = P.1
 hi : hiV p.n1 p.s1 p.l1 = P.2
 q0 : p.l0.length ≤ N
 q1 : p.l1.length ≤ N
theorem IvW.k {p : Iv} (h : IvW P p) (g : IvN N P.1 P.2) (hN : N ≤ 6400) : IvK N P p := by
 obtain ⟨⟨M, G, H⟩, O, I, J⟩ := h
 have E := g.lo.range hN
 have F := g.hi.range hN
 have A := lo_e ⟨E.1, g.nlo⟩
 have B := hi_e ⟨g.nhi, F.2⟩
 rw [← M, ← G, ← H] at A
 rw [← O, ← I, ← J] at B
 have K : Pl P.1 (bE P.1) p.s0 p.l0 := by rw [G, H]; exact Pl.all E
 have L : Pl P.2 (bE P.2) p.s1 p.l1 := by rw [I, J]; exact Pl.all F
 refine ⟨?_, A.1, B.1, K.len_of g.lo, L.len_of g.hi⟩
 unfold okA
 rw [A.2, B.2]
 have C := A.1
 have D := B.1
 have Q := g.le
 unfold loV at C
 unfold hiV at D
 cases hn0 : p.n0
 · cases hn1 : p.n1
   · rw [hn0] at C
     rw [hn1] at D
     have : zof p.s0 p.l0 ≤ zof p.s1 p.l1 := by
      have R : zof p.s0 p.l0 = P.1 := C
      have S : zof p.s1 p.l1 = P.2 := D
      omega
     simp [this]
   · rfl
 · rfl
theorem IvW.okP {p : Iv} (h : IvW P p) (g : IvN N P.1 P.2) (hN : N ≤ 6400) : p.ok = true := (h.k g hN).ok
theorem imul_w {w : World} {p r : Iv} (hp : IvW P p) (hq : IvW Q q) (hr : IvW (ivM P Q) r) (gp : IvN N P.1 P.2) (gq : IvN M Q.1 Q.2) (hN : N ≤ 3200) (hM : M ≤ 3200) (u1 : U64s w Z1 A a p.l0) (u2 : U64s w Z2 B b p.l1) (u3 : U64s w Z3 C c q.l0) (u4 : U64s w Z4 D d q.l1) :
  Calls Tryz.prog 94 #[.agg #[.bool p.n0, .bool p.s0, .slice A p.l0.length a, .bool p.n1, .bool p.s1, .slice B p.l1.length b], .agg #[.bool q.n0, .bool q.s0, .slice C q.l0.length c, .bool q.n1, .bool q.s1, .slice D q.l1.length d]] w fun e w' => ∃ rA ra rB rb, e = .returned (.tuple #[.agg #[.bool r.n0, .bool r.s0, .slice rA r.l0.length ra, .bool r.n1, .bool r.s1, .slice rB r.l1.length rb], .int .i64 0]) ∧ U64s w' (new w.heap.size) rA ra r.l0 ∧ U64s w' (new w.heap.size) rB rb r.l1 ∧ Below w.heap.size w w' := by
 have E := hp.k gp (by omega)
 have F := hq.k gq (by omega)
 have g := ivM_ok gp gq (by omega)
 exact iMul_good u1 u2 u3 u4 E.ok F.ok (Nat.le_trans E.q0 hN) (Nat.le_trans E.q1 hN) (Nat.le_trans F.q0 hM) (Nat.le_trans F.q1 hM) (by rw [E.lo, E.hi, F.lo, F.hi]; rfl) (by rw [E.lo, E.hi, F.lo, F.hi]; rfl) g.nlo g.nhi hr.1 hr.2
theorem iadd_w {w : World} {p r : Iv} (hp : IvW P p) (hq : IvW Q q) (hr : IvW (ivA P Q) r) (gp : IvN N P.1 P.2) (gq : IvN N Q.1 Q.2) (hN : N ≤ 5900) (u1 : U64s w Z1 A a p.l0) (u2 : U64s w Z2 B b p.l1) (u3 : U64s w Z3 C c q.l0) (u4 : U64s w Z4 D d q.l1) :
  Calls Tryz.prog 95 #[.agg #[.bool p.n0, .bool p.s0, .slice A p.l0.length a, .bool p.n1, .bool p.s1, .slice B p.l1.length b], .agg #[.bool q.n0, .bool q.s0, .slice C q.l0.length c, .bool q.n1, .bool q.s1, .slice D q.l1.length d]] w fun e w' => ∃ rA ra rB rb, e = .returned (.tuple #[.agg #[.bool r.n0, .bool r.s0, .slice rA r.l0.length ra, .bool r.n1, .bool r.s1, .slice rB r.l1.length rb], .int .i64 0]) ∧ U64s w' (new w.heap.size) rA ra r.l0 ∧ U64s w' (new w.heap.size) rB rb r.l1 ∧ Below w.heap.size w w' := by
 have E := hp.k gp (by omega)
 have F := hq.k gq (by omega)
 have g := ivA_ok gp gq (by omega)
 exact iAdd_good u1 u2 u3 u4 E.ok F.ok (by have := E.q0; omega) (by have := E.q1; omega) (by have := F.q0; omega) (by have := F.q1; omega) (by rw [E.lo, F.lo]; rfl) (by rw [E.hi, F.hi]; rfl) g.nlo g.nhi hr.1 hr.2
theorem ineg_w {w : World} {p r : Iv} (hp : IvW P p) (hr : IvW (ivNg P) r) (gp : IvN N P.1 P.2) (hN : N ≤ 6000) (u1 : U64s w Z1 A a p.l0) (u2 : U64s w Z2 B b p.l1) :
  Calls Tryz.prog 129 #[.agg #[.bool p.n0, .bool p.s0, .slice A p.l0.length a, .bool p.n1, .bool p.s1, .slice B p.l1.length b]] w fun e w' => ∃ rA ra rB rb, e = .returned (.tuple #[.agg #[.bool r.n0, .bool r.s0, .slice rA r.l0.length ra, .bool r.n1, .bool r.s1, .slice rB r.l1.length rb], .int .i64 0]) ∧ U64s w' (new w.heap.size) rA ra r.l0 ∧ U64s w' (new w.heap.size) rB rb r.l1 ∧ Below w.heap.size w w' := by
 have C := hp.k gp (by omega)
 exact iNeg_good u1 u2 C.ok (by have := C.q0; omega) (by have := C.q1; omega) (by rw [C.hi]; rfl) (by rw [C.lo]; rfl) hr.1 hr.2
theorem ijoin_w {w : World} {p : Iv} (hp : IvW P p) (gp : IvN N P.1 P.2) (hN : N ≤ 6000) (u1 : U64s w Z1 A a p.l0) (u2 : U64s w Z2 B b p.l1) (u3 : U64s w Z3 C c p.l0) (u4 : U64s w Z4 D d p.l1) :
  Calls Tryz.prog 49 #[.agg #[.bool p.n0, .bool p.s0, .slice A p.l0.length a, .bool p.n1, .bool p.s1, .slice B p.l1.length b], .agg #[.bool p.n0, .bool p.s0, .slice C p.l0.length c, .bool p.n1, .bool p.s1, .slice D p.l1.length d]] w fun e w' => ∃ rA ra rB rb, e = .returned (.tuple #[.agg #[.bool p.n0, .bool p.s0, .slice rA p.l0.length ra, .bool p.n1, .bool p.s1, .slice rB p.l1.length rb], .int .i64 0]) ∧ U64s w' (new w.heap.size) rA ra p.l0 ∧ U64s w' (new w.heap.size) rB rb p.l1 ∧ Below w.heap.size w w' := by
 have E := hp.k gp (by omega)
 exact iJoin_good u1 u2 u3 u4 E.ok E.ok (by have := E.q0; omega) (by have := E.q1; omega) (by have := E.q0; omega) (by have := E.q1; omega) (z0 := P.1) (z1 := P.2) (by rw [E.lo]; omega) (by rw [E.hi]; omega) hp.1 hp.2
theorem lscale1_w {w : World} {p r : Iv} {i : Value} (hp : IvW P p) (hq : IvW Q q) (hr : IvW (ivM P Q) r) (gp : IvN 3200 P.1 P.2) (gq : IvN 3200 Q.1 Q.2)
  (hg : Box6 w g (.bool q.n0) (.bool q.s0) (.slice C q.l0.length c) (.bool q.n1) (.bool q.s1) (.slice D q.l1.length d)) (u1 : U64s w Z1 A a p.l0) (u2 : U64s w Z2 B b p.l1) (u3 : U64s w Z3 C c q.l0) (u4 : U64s w Z4 D d q.l1) :
  Calls Tryz.prog 175 #[i, .agg #[.bool p.n0, .bool p.s0, .slice A p.l0.length a, .bool p.n1, .bool p.s1, .slice B p.l1.length b], .pointer (some ⟨g, 0, none⟩)] w fun e w' => ∃ rA ra rB rb, e = .returned (.tuple #[.agg #[.bool r.n0, .bool r.s0, .slice rA r.l0.length ra, .bool r.n1, .bool r.s1, .slice rB r.l1.length rb], .int .i64 0]) ∧ U64s w' (new w.heap.size) rA ra r.l0 ∧ U64s w' (new w.heap.size) rB rb r.l1 ∧ Below w.heap.size w w' := by
 obtain ⟨W, M, E⟩ := boxT w (.bool p.n0) (.bool p.s0) (.slice A p.l0.length a) (.bool p.n1) (.bool p.s1) (.slice B p.l1.length b) (.bool false) (.bool false) (.slice none 0 0) (.bool false) (.bool false) (.slice none 0 0) 39
 have T := (hg.alloc (.cells #[.bool p.n0, .bool p.s0, .slice A p.l0.length a, .bool p.n1, .bool p.s1, .slice B p.l1.length b] 39)).alloc (.cells #[.bool false, .bool false, .slice none 0 0, .bool false, .bool false, .slice none 0 0] 39)
 obtain ⟨X, N, F⟩ := hid3 (imul_w hp hq hr gp gq (by omega) (by omega) (u1.below E) (u2.below E) (u3.below E) (u4.below E)) M E
 have U := W.all
 have j := T.all
 clear hp hq hr gp gq u1 u2 u3 u4 M E hg
 generalize p.l0.length = pl0 at *
 generalize p.l1.length = pl1 at *
 generalize q.l0.length = ql0 at *
 generalize q.l1.length = ql1 at *
 go_enter Tryz.func175, Tryz.ntmps175
 go_wp2_with fail
 refine X.out.mono ?_
 rintro o s ⟨G, H, I, J, rfl, O, R, K⟩
 have V := N.out.lt
 have L := N.out.below K
 obtain ⟨S, Y, Z⟩ := hid3 (L.put (from_ F.out K) (by omega) (.bool r.n0) (.bool r.s0) (.slice G r.l0.length H) (.bool r.n1) (.bool r.s1) (.slice I r.l1.length J)) ((O.set6 (g := w.heap.size + 1) (fun (h : _ ≤ w.heap.size + 1) => by omega) (.bool r.n0) (.bool r.s0) (.slice G r.l0.length H) (.bool r.n1) (.bool r.s1) (.slice I r.l1.length J)).mono (new_le F.out.size)) ((R.set6 (g := w.heap.size + 1) (fun (h : _ ≤ w.heap.size + 1) => by omega) (.bool r.n0) (.bool r.s0) (.slice G r.l0.length H) (.bool r.n1) (.bool r.s1) (.slice I r.l1.length J)).mono (new_le F.out.size))
 clear O R K U V
 have m := L.cf
 go_wp2
 refine bodyPost_ret (res_itv2 rfl _ (w.heap.size + 1) rfl S.out.box) rfl ?_
 exact ⟨_, _, _, _, rfl, Y.out, Z.out, S.out.bel⟩
theorem lneg1_w {w : World} {p r : Iv} {i : Value} (hp : IvW P p) (hr : IvW (ivNg P) r) (gp : IvN 3200 P.1 P.2)
  (u1 : U64s w Z1 A a p.l0) (u2 : U64s w Z2 B b p.l1) :
  Calls Tryz.prog 173 #[i, .agg #[.bool p.n0, .bool p.s0, .slice A p.l0.length a, .bool p.n1, .bool p.s1, .slice B p.l1.length b]] w fun e w' => ∃ rA ra rB rb, e = .returned (.tuple #[.agg #[.bool r.n0, .bool r.s0, .slice rA r.l0.length ra, .bool r.n1, .bool r.s1, .slice rB r.l1.length rb], .int .i64 0]) ∧ U64s w' (new w.heap.size) rA ra r.l0 ∧ U64s w' (new w.heap.size) rB rb r.l1 ∧ Below w.heap.size w w' := by
 obtain ⟨S, K, C⟩ := boxT w (.bool p.n0) (.bool p.s0) (.slice A p.l0.length a) (.bool p.n1) (.bool p.s1) (.slice B p.l1.length b) (.bool false) (.bool false) (.slice none 0 0) (.bool false) (.bool false) (.slice none 0 0) 39
 obtain ⟨T, L, D⟩ := hid3 (ineg_w hp hr gp (by omega) (u1.below C) (u2.below C)) K C
 have Q := S.all
 clear hp hr gp u1 u2 K C
 generalize p.l0.length = pl0 at *
 generalize p.l1.length = pl1 at *
 go_enter Tryz.func173, Tryz.ntmps173
 go_wp2_with fail
 refine T.out.mono ?_
 rintro X Y ⟨E, F, G, H, rfl, M, N, I⟩
 have R := L.out.lt
 have J := L.out.below I
 obtain ⟨O, U, V⟩ := hid3 (J.put (from_ D.out I) (by omega) (.bool r.n0) (.bool r.s0) (.slice E r.l0.length F) (.bool r.n1) (.bool r.s1) (.slice G r.l1.length H)) ((M.set6 (g := w.heap.size + 1) (fun (h : _ ≤ w.heap.size + 1) => by omega) (.bool r.n0) (.bool r.s0) (.slice E r.l0.length F) (.bool r.n1) (.bool r.s1) (.slice G r.l1.length H)).mono (new_le D.out.size)) ((N.set6 (g := w.heap.size + 1) (fun (h : _ ≤ w.heap.size + 1) => by omega) (.bool r.n0) (.bool r.s0) (.slice E r.l0.length F) (.bool r.n1) (.bool r.s1) (.slice G r.l1.length H)).mono (new_le D.out.size))
 clear M N I Q R
 have W := J.cf
 go_wp2
 refine bodyPost_ret (res_itv2 rfl _ (w.heap.size + 1) rfl O.out.box) rfl ?_
 exact ⟨_, _, _, _, rfl, U.out, V.out, O.out.bel⟩
theorem ladd1_w {w : World} {p r : Iv} {o L : Nat} (hp : IvW P p) (hq : IvW Q q) (hr : IvW (ivA P Q) r) (gp : IvN 3200 P.1 P.2) (gq : IvN 3200 Q.1 Q.2)
  (hg : w.cell? ⟨g, 0, none⟩ = some (.slice (some ⟨h, o, none⟩) L M)) (hj : j < L) (hL : L ≤ 64) (hc : w.cell? ⟨h, o + j * 6, none⟩ = some (.bool q.n0) ∧ w.cell? ⟨h, o + j * 6 + 1, none⟩ = some (.bool q.s0) ∧ w.cell? ⟨h, o + j * 6 + 2, none⟩ = some (.slice C q.l0.length c) ∧ w.cell? ⟨h, o + j * 6 + 3, none⟩ = some (.bool q.n1) ∧ w.cell? ⟨h, o + j * 6 + 4, none⟩ = some (.bool q.s1) ∧ w.cell? ⟨h, o + j * 6 + 5, none⟩ = some (.slice D q.l1.length d))
  (u1 : U64s w Z1 A a p.l0) (u2 : U64s w Z2 B b p.l1) (u3 : U64s w Z3 C c q.l0) (u4 : U64s w Z4 D d q.l1) :
  Calls Tryz.prog 174 #[.int .i64 (j : Int), .agg #[.bool p.n0, .bool p.s0, .slice A p.l0.length a, .bool p.n1, .bool p.s1, .slice B p.l1.length b], .pointer (some ⟨g, 0, none⟩)] w fun e w' => ∃ rA ra rB rb, e = .returned (.tuple #[.agg #[.bool r.n0, .bool r.s0, .slice rA r.l0.length ra, .bool r.n1, .bool r.s1, .slice rB r.l1.length rb], .int .i64 0]) ∧ U64s w' (new w.heap.size) rA ra r.l0 ∧ U64s w' (new w.heap.size) rB rb r.l1 ∧ Below w.heap.size w w' := by
 obtain ⟨v, R, E⟩ := boxT w (.bool p.n0) (.bool p.s0) (.slice A p.l0.length a) (.bool p.n1) (.bool p.s1) (.slice B p.l1.length b) (.bool false) (.bool false) (.slice none 0 0) (.bool false) (.bool false) (.slice none 0 0) 39
 have F := E.drew
 obtain ⟨x, S, G⟩ := hid3 (iadd_w hp hq hr gp gq (by omega) (u1.below F) (u2.below F) (u3.below F) (u4.below F)) (R.below bdr_) F
 have y := v.all
 have z := keepC E hg
 obtain ⟨T, U, V, W, X, Y⟩ := hc
 have q0 := keepC E T
 have q1 := keepC E U
 have q2 := keepC E V
 have q3 := keepC E W
 have q4 := keepC E X
 have q5 := keepC E Y
 clear hp hq hr gp gq u1 u2 u3 u4 R E F hg T U V W X Y
 generalize p.l0.length = pl0 at *
 generalize p.l1.length = pl1 at *
 generalize q.l0.length = ql0 at *
 generalize q.l1.length = ql1 at *
 go_enter Tryz.func174, Tryz.ntmps174
 go_upto_region 1 with fail
 go_region_with (first
  | (go_at_call 95; refine x.out.mono ?_; rintro e' w1 ⟨H, I, J, K, rfl, Z, i, hc⟩; have m := S.out.lt; have N := S.out.below hc; have O := hid (N.put (from_ G.out hc) (by omega) (.bool r.n0) (.bool r.s0) (.slice H r.l0.length I) (.bool r.n1) (.bool r.s1) (.slice J r.l1.length K)); have s := hid ((Z.set6 (g := w.heap.size + 1) (fun (h : _ ≤ w.heap.size + 1) => by omega) (.bool r.n0) (.bool r.s0) (.slice H r.l0.length I) (.bool r.n1) (.bool r.s1) (.slice J r.l1.length K)).mono (new_le G.out.size)); have u := hid ((i.set6 (g := w.heap.size + 1) (fun (h : _ ≤ w.heap.size + 1) => by omega) (.bool r.n0) (.bool r.s0) (.slice H r.l0.length I) (.bool r.n1) (.bool r.s1) (.slice J r.l1.length K)).mono (new_le G.out.size)); clear Z i hc m; have g0 := N.cf)
  | fail)
 all_goals
  go_wp2
  refine bodyPost_ret (res_itv2 rfl _ (w.heap.size + 1) rfl O.out.box) rfl ?_
  exact ⟨_, _, _, _, rfl, s.out, u.out, O.out.bel⟩
theorem lpoint_w {w : World} (hx : -9223372036854775808 ≤ x ∧ x ≤ 9223372036854775807) :
  Calls Tryz.prog 121 #[.int .i64 x] w fun e w' => ∃ A c B d, e = .returned (.agg #[.bool (nLo x), .bool (sE x), .slice A (lE x).length c, .bool (nHi x), .bool (sE x), .slice B (lE x).length d]) ∧ U64s w' (new w.heap.size) A c (lE x) ∧ U64s w' (new w.heap.size) B d (lE x) ∧ Below w.heap.size w w' := by
 have K : Below w.heap.size w (w.alloc (.cells #[.bool false, .bool false, .slice none 0 0, .bool false, .bool false, .slice none 0 0] 39)) := (Below.refl _ w).alloc (Nat.le_refl _) _
 obtain ⟨L, Q, H⟩ := hid3 (Box6.new w (.bool false) (.bool false) (.slice none 0 0) (.bool false) (.bool false) (.slice none 0 0) 39) (iof_good (w := w.alloc (.cells #[.bool false, .bool false, .slice none 0 0, .bool false, .bool false, .slice none 0 0] 39)) hx hx (Int.le_refl x)) K
 clear hx K
 generalize nLo x = n0 at *
 generalize nHi x = n1 at *
 generalize lE x = l0 at *
 generalize sE x = s0 at *


 go_enter Tryz.func121, Tryz.ntmps121
 go_wp2_with fail
 refine Q.out.mono ?_
 rintro e I ⟨D, E, F, G, rfl, M, N, J⟩
 have C := (Below.refl I.heap.size I).alloc (Nat.le_refl _) (.cells #[.bool n0, .bool s0, .slice D l0.length E, .bool n1, .bool s0, .slice F l0.length G] 39)
 have R := (L.out.below J).below C
 have P := L.out.lt
 obtain ⟨O, S, T⟩ := hid3 (R.put (w := w) (from_ (from_ H.out J) C) (Nat.le_refl _) (.bool n0) (.bool s0) (.slice D l0.length E) (.bool n1) (.bool s0) (.slice F l0.length G)) (((M.below C).set6 (g := w.heap.size) (fun (h : _ ≤ w.heap.size) => by omega) (.bool n0) (.bool s0) (.slice D l0.length E) (.bool n1) (.bool s0) (.slice F l0.length G)).mono (new_le H.out.size)) (((N.below C).set6 (g := w.heap.size) (fun (h : _ ≤ w.heap.size) => by omega) (.bool n0) (.bool s0) (.slice D l0.length E) (.bool n1) (.bool s0) (.slice F l0.length G)).mono (new_le H.out.size))
 obtain ⟨V, W, X, Y, Z, a, _, _, _, _, _, _, _⟩ := Box6.new I (.bool n0) (.bool s0) (.slice D l0.length E) (.bool n1) (.bool s0) (.slice F l0.length G) 39
 have U := R.cf
 clear M N J C P
 go_wp2
 refine bodyPost_ret (res_itv rfl _ w.heap.size rfl O.out.box) rfl ?_
 exact ⟨_, _, _, _, rfl, S.out, T.out, O.out.bel⟩
theorem six_keep {o : Nat} (h : W.cell? ⟨b, o, none⟩ = some a0 ∧ W.cell? ⟨b, o + 1, none⟩ = some a1 ∧ W.cell? ⟨b, o + 2, none⟩ = some a2 ∧ W.cell? ⟨b, o + 3, none⟩ = some a3 ∧ W.cell? ⟨b, o + 4, none⟩ = some a4 ∧ W.cell? ⟨b, o + 5, none⟩ = some a5) (hb : Below W.heap.size W W') : W'.cell? ⟨b, o, none⟩ = some a0 ∧ W'.cell? ⟨b, o + 1, none⟩ = some a1 ∧ W'.cell? ⟨b, o + 2, none⟩ = some a2 ∧ W'.cell? ⟨b, o + 3, none⟩ = some a3 ∧ W'.cell? ⟨b, o + 4, none⟩ = some a4 ∧ W'.cell? ⟨b, o + 5, none⟩ = some a5 :=
 ⟨keepC hb h.1, keepC hb h.2.1, keepC hb h.2.2.1, keepC hb h.2.2.2.1, keepC hb h.2.2.2.2.1, keepC hb h.2.2.2.2.2⟩
theorem six_st6 {o r : Nat} {x0 x1 x2 x3 x4 x5 : Value} (hn : r ≠ b) (h : W.cell? ⟨b, o, none⟩ = some a0 ∧ W.cell? ⟨b, o + 1, none⟩ = some a1 ∧ W.cell? ⟨b, o + 2, none⟩ = some a2 ∧ W.cell? ⟨b, o + 3, none⟩ = some a3 ∧ W.cell? ⟨b, o + 4, none⟩ = some a4 ∧ W.cell? ⟨b, o + 5, none⟩ = some a5) :
 let V := ((((((W.setCell ⟨r, 0, none⟩ x0).setCell ⟨r, 1, none⟩ x1).setCell ⟨r, 2, none⟩ x2).setCell ⟨r, 3, none⟩ x3).setCell ⟨r, 4, none⟩ x4).setCell ⟨r, 5, none⟩ x5)
 V.cell? ⟨b, o, none⟩ = some a0 ∧ V.cell? ⟨b, o + 1, none⟩ = some a1 ∧ V.cell? ⟨b, o + 2, none⟩ = some a2 ∧ V.cell? ⟨b, o + 3, none⟩ = some a3 ∧ V.cell? ⟨b, o + 4, none⟩ = some a4 ∧ V.cell? ⟨b, o + 5, none⟩ = some a5 := ⟨st6 h.1 hn, st6 h.2.1 hn, st6 h.2.2.1 hn, st6 h.2.2.2.1 hn, st6 h.2.2.2.2.1 hn, st6 h.2.2.2.2.2 hn⟩
theorem six_keep0 (h : C6 W b a0 a1 a2 a3 a4 a5) (hb : Below W.heap.size W W') : C6 W' b a0 a1 a2 a3 a4 a5 :=
 ⟨keepC hb h.1, keepC hb h.2.1, keepC hb h.2.2.1, keepC hb h.2.2.2.1, keepC hb h.2.2.2.2.1, keepC hb h.2.2.2.2.2⟩
theorem infoIv : (Tryz.prog.info? 39).map (fun i => (i.zero, i.size, i.bytes)) = some (some (.agg #[.bool false, .bool false, .slice none 0 0, .bool false, .bool false, .slice none 0 0]), 6, 80) := by kernel_rfl
theorem c2_keep {a b : Value} (hs : W.cell? ⟨g, i, none⟩ = some a ∧ W.cell? ⟨g, j, none⟩ = some b) (hb : Below W.heap.size W V) : V.cell? ⟨g, i, none⟩ = some a ∧ V.cell? ⟨g, j, none⟩ = some b := ⟨keepC hb hs.1, keepC hb hs.2⟩
theorem c2_al {a b : Value} (e : V = W.alloc o) (hs : W.cell? ⟨g, i, none⟩ = some a ∧ W.cell? ⟨g, j, none⟩ = some b) : V.cell? ⟨g, i, none⟩ = some a ∧ V.cell? ⟨g, j, none⟩ = some b := by
 subst e
 exact c2_keep hs bal_
theorem c2_dr {a b : Value} (e : V = W.drew) (hs : W.cell? ⟨g, i, none⟩ = some a ∧ W.cell? ⟨g, j, none⟩ = some b) : V.cell? ⟨g, i, none⟩ = some a ∧ V.cell? ⟨g, j, none⟩ = some b := by
 subst e
 exact c2_keep hs bdr_
theorem c4_keep {k l : Nat} {a b c d : Value} (hs : (W.cell? ⟨g, i, none⟩ = some a ∧ W.cell? ⟨g, j, none⟩ = some b) ∧ W.cell? ⟨h, k, none⟩ = some c ∧ W.cell? ⟨h, l, none⟩ = some d) (hb : Below W.heap.size W V) : (V.cell? ⟨g, i, none⟩ = some a ∧ V.cell? ⟨g, j, none⟩ = some b) ∧ V.cell? ⟨h, k, none⟩ = some c ∧ V.cell? ⟨h, l, none⟩ = some d := ⟨c2_keep hs.1 hb, c2_keep hs.2 hb⟩
theorem c4_al {k l : Nat} {a b c d : Value} (e : V = W.alloc o) (hs : (W.cell? ⟨g, i, none⟩ = some a ∧ W.cell? ⟨g, j, none⟩ = some b) ∧ W.cell? ⟨h, k, none⟩ = some c ∧ W.cell? ⟨h, l, none⟩ = some d) : (V.cell? ⟨g, i, none⟩ = some a ∧ V.cell? ⟨g, j, none⟩ = some b) ∧ V.cell? ⟨h, k, none⟩ = some c ∧ V.cell? ⟨h, l, none⟩ = some d := ⟨c2_al e hs.1, c2_al e hs.2⟩
theorem c4_dr {k l : Nat} {a b c d : Value} (e : V = W.drew) (hs : (W.cell? ⟨g, i, none⟩ = some a ∧ W.cell? ⟨g, j, none⟩ = some b) ∧ W.cell? ⟨h, k, none⟩ = some c ∧ W.cell? ⟨h, l, none⟩ = some d) : (V.cell? ⟨g, i, none⟩ = some a ∧ V.cell? ⟨g, j, none⟩ = some b) ∧ V.cell? ⟨h, k, none⟩ = some c ∧ V.cell? ⟨h, l, none⟩ = some d := ⟨c2_dr e hs.1, c2_dr e hs.2⟩
theorem wfloor_m {w : World} {l k : List Nat} (h1 : Nm x s l) (h2 : Nm y t k) (hy : y ≠ 0) (h3 : Nm (rq x y true) r m) (hl : l.length ≤ 10000000000) (u1 : U64s w Z1 A c l) (u2 : U64s w Z2 B d k) :
  Calls Tryz.prog 218 #[.agg #[.bool s, .slice A l.length c], .agg #[.bool t, .slice B k.length d]] w fun e w' => ∃ Av cv, e = .returned (.tuple #[.agg #[.bool r, .slice Av m.length cv], .int .i64 0]) ∧ U64s w' (new w.heap.size) Av cv m ∧ Below w.heap.size w w' := by
 refine (wfloor_z (h1.isZ u1) (h2.isZ u2) hy (by rw [← h1.len]; exact hl)).mono ?_
 rintro e w' ⟨v, rfl, C, D⟩
 obtain ⟨Av, cv, rfl, E⟩ := h3.of C
 exact ⟨Av, cv, rfl, E, D⟩
def fmOf (Ps : List IvP) : List Iv := Ps.map fun P => ivOf P.1 P.2
theorem fmOf_len (Ps : List IvP) : (fmOf Ps).length = Ps.length := List.length_map _
theorem fmOf_get {Ps : List IvP} (h : j < (fmOf Ps).length) (h' : j < Ps.length) : (fmOf Ps)[j] = ivOf Ps[j].1 Ps[j].2 := List.getElem_map _
theorem U64s.anyz {w : World} (h : U64s w Z A c []) : U64s w' Y A c [] := ⟨h.small, h.cap, h.max, h.nul, fun hp => absurd hp (by simp)⟩
theorem wceil_m {w : World} {l k : List Nat} (h1 : Nm x s l) (h2 : Nm y t k) (hy : y ≠ 0) (h3 : Nm (rq x y false) r m) (hl : l.length ≤ 10000000000) (u1 : U64s w Z1 A c l) (u2 : U64s w Z2 B d k) :
  Calls Tryz.prog 217 #[.agg #[.bool s, .slice A l.length c], .agg #[.bool t, .slice B k.length d]] w fun e w' => ∃ Av cv, e = .returned (.tuple #[.agg #[.bool r, .slice Av m.length cv], .int .i64 0]) ∧ U64s w' (new w.heap.size) Av cv m ∧ Below w.heap.size w w' := by
 refine (wceil_z (h1.isZ u1) (h2.isZ u2) hy (by rw [← h1.len]; exact hl)).mono ?_
 rintro e w' ⟨v, rfl, C, D⟩
 obtain ⟨Av, cv, rfl, E⟩ := h3.of C
 exact ⟨Av, cv, rfl, E, D⟩
theorem tq_tdiv (x y : Int) : tq x y = Int.tdiv x y := by
 unfold tq
 cases x with
 | ofNat m =>
   cases y with
   | ofNat n => rfl
   | negSucc n => rw [if_neg (by simp)]; simp [Int.tdiv, Int.natAbs]
 | negSucc m =>
   cases y with
   | ofNat n => rw [if_neg (by simp)]; simp [Int.tdiv, Int.natAbs]
   | negSucc n => rw [if_pos (by simp)]; simp [Int.tdiv, Int.natAbs]
theorem rq_tq {d : Bool} (h : (x = 0 ∨ (decide (x < 0) != decide (y < 0)) = !d)) : rq x y d = Int.tdiv x y := by
 rw [← tq_tdiv]
 unfold rq
 rcases h with rfl | h
 · rw [if_neg]
   simp [limbs_eq_nil.2]
 · rw [h, if_neg]
   cases d <;> simp
theorem rq_down (hy : 0 < y) : rq x y true = Int.fdiv x y := by
 rw [Int.fdiv_eq_ediv_of_nonneg _ (by omega)]
 have C : y.natAbs = y := by omega
 have A : 0 ≤ x - rq x y true * y ∧ x - rq x y true * y < y := by
  rcases rounds_plain (x := x) (y := y) (by omega) with ⟨_, h, _⟩ | ⟨_, h, _, _, h2⟩
  · omega
  · have : sgn y = 1 := by unfold sgn; rw [if_neg (by omega), if_neg (by omega)]
    rw [this] at h
    unfold sgn at h
    split at h
    · omega
    · split at h
      · omega
      · omega
 generalize rq x y true = q at A
 have B := (Int.ediv_emod_unique (a := x) (b := y) (q := q) (r := x - q * y) (by omega)).2 ⟨by rw [Int.mul_comm y q]; omega, A.1, A.2⟩
 exact B.1.symm
theorem boxD_st3 {r : Nat} (e : V = (((W.setCell ⟨r, 0, none⟩ x0).setCell ⟨r, 1, none⟩ x1).setCell ⟨r, 2, none⟩ x2)) (hg : r ≠ g) (hh : r ≠ h)
  (hs : D3 W g a0 a1 a2 (C3 W h b0 b1 b2)) :
  D3 V g a0 a1 a2 (C3 V h b0 b1 b2) := by
 subst e
 exact ⟨st3 hs.1 hg, st3 hs.2.1 hg, st3 hs.2.2.1 hg, st3 hs.2.2.2.1 hh, st3 hs.2.2.2.2.1 hh, st3 hs.2.2.2.2.2 hh⟩
theorem iover_p {w : World} {b d : Int} {l k : List Nat} (h1 : Pl x b s l) (h2 : Pl y d t k) (h3 : Pl z e r m) (hz : overE bigZ x y = z) (hy0 : y ≠ 0) (hu : U64s w Z A c l) (hv : U64s w Y B f k) (hl : l.length ≤ 6000) (hl2 : k.length ≤ 6000) :
  Calls Tryz.prog 167 #[.agg #[.int .i64 b, .bool s, .slice A l.length c], .agg #[.int .i64 d, .bool t, .slice B k.length f]] w fun e' w' => ∃ A' c', e' = .returned (.agg #[.int .i64 e, .bool r, .slice A' m.length c']) ∧ U64s w' (new w.heap.size) A' c' m ∧ Below w.heap.size w w' := by
 have Km := bigZ_pos
 have ex := h1.ext hl
 have ey := h2.ext hl2
 obtain ⟨bA, bB, bR, Kk⟩ := boxS w (.int .i64 b) (.bool s) (.slice A l.length c) (.int .i64 d) (.bool t) (.slice B k.length f) (.int .i64 0) (.bool false) (.slice none 0 0) 93
 obtain ⟨g, hg⟩ : ∃ g, sgn x = g := ⟨_, rfl⟩
 obtain ⟨h, hh⟩ : ∃ h, sgn y = h := ⟨_, rfl⟩
 obtain ⟨S1, S2⟩ := hid2 (fun (W : World) (q : Below w.heap.size w W) => isign_p h1 hg (hu.below q)) (fun (W : World) (q : Below w.heap.size w W) => isign_p h2 hh (hv.below q))
 have X := sgn3 x
 have M := sgn3 y
 rw [hg] at X
 rw [hh] at M
 obtain ⟨v, Ka⟩ : ∃ v, g * h = v := ⟨_, rfl⟩
 have Kc : (v = 0 ∧ (x = 0 ∨ y = 0)) ∨ (v = 1 ∧ x ≠ 0 ∧ y ≠ 0 ∧ (0 < x ↔ 0 < y)) ∨ (v = -1 ∧ x ≠ 0 ∧ y ≠ 0 ∧ ¬ (0 < x ↔ 0 < y)) := by
  rw [← Ka]
  rcases X with ⟨rfl, a⟩ | ⟨rfl, a⟩ | ⟨rfl, a⟩ <;> rcases M with ⟨rfl, b⟩ | ⟨rfl, b⟩ | ⟨rfl, b⟩ <;> simp <;> omega
 obtain ⟨v2, j⟩ : ∃ u, (b != 0) = u := ⟨_, rfl⟩
 obtain ⟨v3, Ki⟩ : ∃ u, (d != 0) = u := ⟨_, rfl⟩
 obtain ⟨v4, N⟩ : ∃ u, decide (v < 0) = u := ⟨_, rfl⟩
 have HD : (v3 = true ∧ e = 0 ∧ r = false ∧ m = []) ∨ (v3 = false ∧ v2 = true ∧ e = b * h ∧ r = false ∧ m = []) ∨ (v3 = false ∧ v2 = false ∧ e = 0 ∧ Nm x s l ∧ Nm y t k ∧ Nm (rq x y (!v4)) r m) := by
  by_cases hd : d = 0
  · obtain ⟨n2, r2⟩ : Nm y t k ∧ (-bigZ < y ∧ y < bigZ) := by rcases h2 with ⟨_, n, q⟩ | ⟨q, _⟩ | ⟨q, _⟩ <;> first | exact ⟨n, q⟩ | omega
    have hf : v3 = false := by rw [← Ki, hd]; rfl
    by_cases hb0 : b = 0
    · obtain ⟨n1, r1⟩ : Nm x s l ∧ (-bigZ < x ∧ x < bigZ) := by rcases h1 with ⟨_, n, q⟩ | ⟨q, _⟩ | ⟨q, _⟩ <;> first | exact ⟨n, q⟩ | omega
      have ez : Int.tdiv x y = z := by rw [← hz]; unfold overE; rw [if_neg (by omega), if_neg (by omega)]
      have Kj := tdiv_bd (y := y) r1
      rw [ez] at Kj
      obtain ⟨e0, O⟩ := h3.fin Kj
      have er : rq x y (!v4) = z := by
       rw [← ez]
       refine rq_tq ?_
       by_cases hx0 : x = 0
       · exact .inl hx0
       · refine .inr ?_
         rw [← N]
         rcases Kc with ⟨q, _⟩ | ⟨q, _, _, q3⟩ | ⟨q, _, _, q3⟩
         · omega
         · rw [q]; by_cases a : x < 0 <;> by_cases b : y < 0 <;> simp [a, b] <;> omega
         · rw [q]; by_cases a : x < 0 <;> by_cases b : y < 0 <;> simp [a, b] <;> omega
      exact .inr (.inr ⟨hf, by rw [← j, hb0]; rfl, e0, n1, n2, by rw [er]; exact O⟩)
    · unfold overE at hz
      have ht : v2 = true := by rw [← j]; simp [hb0]
      rcases h1 with ⟨q, _⟩ | ⟨hb, _, _, q⟩ | ⟨hb, _, _, q⟩
      · exact absurd q hb0
      all_goals
       rw [if_neg (by omega), if_pos (by omega)] at hz
       rcases M with ⟨V, o⟩ | ⟨V, o⟩ | ⟨V, o⟩
       · exact absurd o hy0
       all_goals
        first
         | (rw [if_pos (by omega)] at hz; obtain ⟨a1, a2, a3⟩ := h3.top hz.symm; exact .inr (.inl ⟨hf, ht, by rw [a1, hb, V]; rfl, a2, a3⟩))
         | (rw [if_neg (by omega)] at hz; obtain ⟨a1, a2, a3⟩ := h3.bot hz.symm; exact .inr (.inl ⟨hf, ht, by rw [a1, hb, V]; rfl, a2, a3⟩))
  · have hq : y = bigZ ∨ y = -bigZ := by
     rcases h2 with ⟨q, _⟩ | ⟨_, _, _, q⟩ | ⟨_, _, _, q⟩
     · exact absurd q hd
     · exact .inl q
     · exact .inr q
    have ez : z = 0 := by rw [← hz]; unfold overE; rw [if_pos hq]
    obtain ⟨e1, O⟩ := h3.fin (by omega)
    exact .inl ⟨by rw [← Ki]; simp [hd], e1, O.1.trans (by rw [ez]; rfl), O.2.trans (by rw [ez]; exact limbs_eq_nil.2 rfl)⟩
 have Kd : b = 0 ∨ b = 1 ∨ b = -1 := by rcases h1 with ⟨q, _⟩ | ⟨q, _⟩ | ⟨q, _⟩ <;> omega
 obtain ⟨J, K, E, F, Kg⟩ := hid5 bA bB bR Kk (And.intro X (And.intro M Ka))
 clear bA bB bR Kk X M Ka hg hh Kc ex ey h1 h2 h3 hz Km
 obtain ⟨Hd, He⟩ := hid2 HD (And.intro j (And.intro Ki (And.intro N Kd)))
 clear HD j Ki N Kd
 go_enter Tryz.func167, Tryz.ntmps167
 go_upto_region 1 with fail
 generalize hW : (((w.alloc (.cells #[.int .i64 b, .bool s, .slice A l.length c] 93)).alloc (.cells #[.int .i64 d, .bool t, .slice B k.length f] 93)).alloc (.cells #[.int .i64 0, .bool false, .slice none 0 0] 93)) = W1 at *
 clear hW
 obtain ⟨j, Kc, N, Kd⟩ := He.out
 have Kh := hid Kd
 clear Kd
 rcases Hd.out with ⟨rfl, rfl, rfl, rfl⟩ | ⟨rfl, rfl, rfl, rfl, rfl⟩ | ⟨rfl, rfl, rfl, n1, n2, O⟩
 · clear S1 S2 Kg He Hd hu hv hl hl2 Kh
   have C := hid (E.out.put (w := w) F.out (by omega) (.int .i64 0) (.bool false) (.slice none 0 0))
   obtain ⟨P, Q, R, _⟩ := J.out
   obtain ⟨S, T, U, _⟩ := K.out
   obtain ⟨q0, V, o, f0, f1, f2, _⟩ := E.out
   go_wp2
   refine bodyPost_ret (res_place rfl _ (w.heap.size + 2) rfl C.out.c0 C.out.c1 C.out.c2) rfl ?_
   exact ⟨none, 0, rfl, U64s.nil _ _, C.out.bel⟩
 · obtain ⟨P, Q, R, _⟩ := J.out
   obtain ⟨S, T, U, _⟩ := K.out
   go_upto_region 4 with fail
   clear P Q R S T U
   have G := boxD_keep (boxD_of J.out K.out) bdr_
   have H := hid (from_ F.out (Below.refl W1.heap.size W1).drew)
   replace E := hid (E.out.below bdr_)
   have I : IntKind.i64.wrap (b * h) = b * h := by
    obtain ⟨_, M, _⟩ := Kg.out
    rcases Kh.out with rfl | rfl | rfl <;> rcases M with ⟨rfl, _⟩ | ⟨rfl, _⟩ | ⟨rfl, _⟩ <;> decide
   have Hw := hid I
   clear I j Kc N
   first | go_region_held3 (fun w' => D3 w' w.heap.size (.int .i64 b) (.bool s) (.slice A l.length c) (C3 w' (w.heap.size + 1) (.int .i64 d) (.bool t) (.slice B k.length f)))
    (first | with_reducible exact G | (with_reducible apply boxD_st3 rfl <;> (first | with_reducible exact G | omega)) | (go_keep; done))
    ((go_at_call 169; (with_reducible refine (S2.out _ H.out).mono ?_); rintro e' w2 ⟨rfl, Kb⟩; replace G := boxD_keep G Kb; replace E := hid (E.out.below Kb); replace H := hid (from_ H.out Kb); have I := Hw.out; obtain ⟨q0, V, o, f0, f1, f2, _⟩ := E.out)) | fail
   all_goals
    have C := hid (E.out.put (w := w) H.out (by omega) (.int .i64 (b * h)) (.bool false) (.slice none 0 0))
    clear G S1 S2 Kg He Hd hu hv hl hl2 Kh
    have I := Hw.out
    go_wp2
    (try rw [I])
    refine bodyPost_ret (res_place rfl _ (w.heap.size + 2) rfl C.out.c0 C.out.c1 C.out.c2) rfl ?_
    exact ⟨none, 0, rfl, U64s.nil _ _, C.out.bel⟩
 · obtain ⟨P, Q, R, _⟩ := J.out
   obtain ⟨S, T, U, _⟩ := K.out
   obtain ⟨CA, Kl⟩ := hid2 (fun (W : World) (q : Below w.heap.size w W) => And.intro (fun (hq : v4 = true) => wceil_m n1 n2 hy0 (by rw [hq] at O; exact O) (by omega) (hu.below q) (hv.below q)) (fun (hq : v4 = false) => wfloor_m n1 n2 hy0 (by rw [hq] at O; exact O) (by omega) (hu.below q) (hv.below q))) N
   clear N n1 n2 O
   have Kn := hy0
   clear hy0 Kn
   go_upto_region 5 with fail
   clear P Q R S T U
   have G := boxD_keep (boxD_of J.out K.out) bdr_
   have H := hid (Below.refl W1.heap.size W1).drew
   go_cut [24] (fun sx wx => sx = .bool v4 ∧ Below W1.heap.size W1 wx)
   case first =>
    obtain ⟨X, M, Ka⟩ := Kg.out
    have I : IntKind.i64.wrap (g * h) = v := by
     rw [← Ka]
     rcases X with ⟨rfl, a⟩ | ⟨rfl, a⟩ | ⟨rfl, a⟩ <;> rcases M with ⟨rfl, b⟩ | ⟨rfl, b⟩ | ⟨rfl, b⟩ <;> decide
    have Hw := hid I
    clear X M Ka I
    first | go_region_held3 (fun w' => D3 w' w.heap.size (.int .i64 b) (.bool s) (.slice A l.length c) (C3 w' (w.heap.size + 1) (.int .i64 d) (.bool t) (.slice B k.length f)))
     (first | with_reducible exact G | (go_keep; done))
     ((go_at_call 169; (first | (with_reducible refine (S1.out _ (from_ F.out H.out)).mono ?_) | (with_reducible refine (S2.out _ (from_ F.out H.out)).mono ?_)); rintro e' w2 ⟨rfl, Kb⟩; replace G := boxD_keep G Kb; replace H := hid (from_ H.out Kb))) | fail
    all_goals
     clear G
     have I := Hw.out
     have N := Kl.out
     go_wp2_with fail
     go_meet
     exact ⟨by first | rfl | trivial | (rw [I, N]) | (simp [I, N]), H.out⟩
   case rest =>
    clear G H
    obtain ⟨rfl, D⟩ := hcut
    replace J := hid (J.out.below D)
    replace K := hid (K.out.below D)
    replace E := hid (E.out.below D)
    replace F := hid (from_ F.out D)
    clear D
    obtain ⟨W2, Ko⟩ : ∃ W, W = wc := ⟨_, rfl⟩
    subst Ko
    clear S1 S2 Kg He Hd Kl j Kc Kh
    cases v4 with
    | true =>
      replace CA := hid (fun (W : World) (q : Below w.heap.size w W) => (CA.out W q).1 rfl)
      obtain ⟨P, Q, R, _⟩ := J.out
      obtain ⟨S, T, U, _⟩ := K.out
      go_wp2_with fail
      refine (CA.out _ F.out).mono ?_
      rintro e' w1 ⟨Av, cv, rfl, u1, D⟩
      clear P Q R S T U
      have Ke := from_ F.out D
      have Kf := E.out.below D
      have i := Kf.put Ke (by omega) (.int .i64 0) (.bool r) (.slice Av m.length cv)
      obtain ⟨C, L⟩ := hid2 i ((Below.refl _ (((w1.setCell ⟨w.heap.size + 2, 0, none⟩ (.int .i64 0)).setCell ⟨w.heap.size + 2, 1, none⟩ (.bool r)).setCell ⟨w.heap.size + 2, 2, none⟩ (.slice Av m.length cv))).alloc (Nat.le_refl _) (.cells #[.bool r, .slice Av m.length cv] 35))
      have U1 := hid (((i.keep (fun (h : _ ≤ w.heap.size + 2) => by have h8 := E.out.lt; omega) u1).mono (new_le F.out.size)).below L.out)
      obtain ⟨q0, V, o, f0, f1, f2, z1⟩ := Kf
      obtain ⟨P, Q, R, _⟩ := J.out.below D
      obtain ⟨S, T, U, _⟩ := K.out.below D
      have y1 : ¬ w1.heap.size = w.heap.size + 2 := by omega
      have y2 : ¬ w.heap.size + 2 = w1.heap.size := by omega
      clear i u1 D Ke
      go_wp2
      refine bodyPost_ret (res_place rfl _ (w.heap.size + 2) rfl (keepC L.out C.out.c0) (keepC L.out C.out.c1) (keepC L.out C.out.c2)) rfl ?_
      exact ⟨_, _, rfl, U1.out, from_ C.out.bel L.out⟩
    | false =>
      replace CA := hid (fun (W : World) (q : Below w.heap.size w W) => (CA.out W q).2 rfl)
      obtain ⟨P, Q, R, _⟩ := J.out
      obtain ⟨S, T, U, _⟩ := K.out
      go_wp2_with fail
      refine (CA.out _ F.out).mono ?_
      rintro e' w1 ⟨Av, cv, rfl, u1, D⟩
      clear P Q R S T U
      have Ke := from_ F.out D
      have Kf := E.out.below D
      have i := Kf.put Ke (by omega) (.int .i64 0) (.bool r) (.slice Av m.length cv)
      obtain ⟨C, L⟩ := hid2 i ((Below.refl _ (((w1.setCell ⟨w.heap.size + 2, 0, none⟩ (.int .i64 0)).setCell ⟨w.heap.size + 2, 1, none⟩ (.bool r)).setCell ⟨w.heap.size + 2, 2, none⟩ (.slice Av m.length cv))).alloc (Nat.le_refl _) (.cells #[.bool r, .slice Av m.length cv] 35))
      have U1 := hid (((i.keep (fun (h : _ ≤ w.heap.size + 2) => by have h8 := E.out.lt; omega) u1).mono (new_le F.out.size)).below L.out)
      obtain ⟨q0, V, o, f0, f1, f2, z1⟩ := Kf
      obtain ⟨P, Q, R, _⟩ := J.out.below D
      obtain ⟨S, T, U, _⟩ := K.out.below D
      have y1 : ¬ w1.heap.size = w.heap.size + 2 := by omega
      have y2 : ¬ w.heap.size + 2 = w1.heap.size := by omega
      clear i u1 D Ke
      go_wp2
      refine bodyPost_ret (res_place rfl _ (w.heap.size + 2) rfl (keepC L.out C.out.c0) (keepC L.out C.out.c1) (keepC L.out C.out.c2)) rfl ?_
      exact ⟨_, _, rfl, U1.out, from_ C.out.bel L.out⟩
theorem idown_p {w : World} {b d : Int} {l k : List Nat} (h1 : Pl x b s l) (h2 : Pl y d t k) (h3 : Pl z e r m) (hz : downE bigZ x y = z) (hy0 : 0 < y) (hyb : y < bigZ) (hu : U64s w Z A c l) (hv : U64s w Y B f k) (hl : l.length ≤ 6000) (hl2 : k.length ≤ 6000) :
  Calls Tryz.prog 171 #[.agg #[.int .i64 b, .bool s, .slice A l.length c], .agg #[.int .i64 d, .bool t, .slice B k.length f]] w fun e' w' => ∃ A' c', e' = .returned (.agg #[.int .i64 e, .bool r, .slice A' m.length c']) ∧ U64s w' (new w.heap.size) A' c' m ∧ Below w.heap.size w w' := by
 have Ka := bigZ_pos
 have ex := h1.ext hl
 obtain ⟨rfl, P⟩ := h2.fin ⟨by omega, hyb⟩
 rcases h1 with ⟨rfl, n1, r1, r2⟩ | ⟨rfl, rfl, rfl, hx⟩ | ⟨rfl, rfl, rfl, hx⟩
 · have a : rq x y true = z := by
    rw [rq_down hy0, ← hz]
    unfold downE
    rw [if_neg (by omega)]
   have g : -bigZ < z ∧ z < bigZ := by
    have h1 := fdiv_bd (p := y) ⟨r1, r2⟩ hy0
    rw [← hz]
    unfold downE
    rw [if_neg (by omega)]
    exact h1
   obtain ⟨rfl, T⟩ := h3.fin g
   have i : y ≠ 0 := by omega
   rw [← a] at T
   obtain ⟨D, E, F, C⟩ := boxS w (.int .i64 0) (.bool s) (.slice A l.length c) (.int .i64 0) (.bool t) (.slice B k.length f) (.int .i64 0) (.bool false) (.slice none 0 0) 93
   obtain ⟨J, K, H, I⟩ := hid4 D E F C
   obtain ⟨q, u, v, _, _, _, _⟩ := D
   obtain ⟨b0, b1, b2, _, _, _, _⟩ := E
   have CA := hid (wfloor_m n1 P i T (by omega) (hu.below C) (hv.below C))
   clear hu hv hl hl2 n1 P T F C a hz hy0 hyb i ex h3 h2 r1 r2 g
   generalize l.length = L1 at *
   generalize k.length = L2 at *
   go_enter Tryz.func171, Tryz.ntmps171
   go_wp2_with fail
   refine CA.out.mono ?_
   rintro e' U ⟨V, W, rfl, u1, L⟩
   have j := from_ I.out L
   have o := H.out.below L
   have R := o.put j (by omega) (.int .i64 0) (.bool r) (.slice V m.length W)
   obtain ⟨Q, M⟩ := hid2 R ((Below.refl _ (((U.setCell ⟨w.heap.size + 2, 0, none⟩ (.int .i64 0)).setCell ⟨w.heap.size + 2, 1, none⟩ (.bool r)).setCell ⟨w.heap.size + 2, 2, none⟩ (.slice V m.length W))).alloc (Nat.le_refl _) (.cells #[.bool r, .slice V m.length W] 35))
   have U1 := hid (((R.keep (fun (h : _ ≤ w.heap.size + 2) => by have h8 := H.out.lt; omega) u1).mono (new_le I.out.size)).below M.out)
   obtain ⟨q0, q1, q2, f0, f1, f2, z1⟩ := o
   obtain ⟨p0, p1, p2, _⟩ := J.out.below L
   obtain ⟨p3, p4, p5, _⟩ := K.out.below L
   have y1 : ¬ U.heap.size = w.heap.size + 2 := by omega
   have y2 : ¬ w.heap.size + 2 = U.heap.size := by omega
   clear R u1 L j
   go_wp2
   refine bodyPost_ret (res_place rfl _ (w.heap.size + 2) rfl (keepC M.out Q.out.c0) (keepC M.out Q.out.c1) (keepC M.out Q.out.c2)) rfl ?_
   exact ⟨_, _, rfl, U1.out, from_ Q.out.bel M.out⟩
 · obtain ⟨rfl, rfl, rfl⟩ := h3.top (by
    rw [← hz]
    unfold downE
    rw [if_pos (by omega)]
    exact hx)
   have S := hid hu
   clear hz ex hu hv hl hl2 hy0 P h2 h3
   generalize k.length = L2 at *
   simp only [List.length_nil] at *
   obtain ⟨D, E, F, C⟩ := boxS w (.int .i64 1) (.bool false) (.slice A 0 c) (.int .i64 0) (.bool t) (.slice B L2 f) (.int .i64 0) (.bool false) (.slice none 0 0) 93
   obtain ⟨J, K, H, I⟩ := hid4 D E F C
   obtain ⟨q, u, v, _, _, _, _⟩ := D
   obtain ⟨b0, b1, b2, _, _, _, _⟩ := E
   obtain ⟨_, _, N, O⟩ := boxS w (.int .i64 1) (.bool false) (.slice A 0 c) (.int .i64 0) (.bool t) (.slice B L2 f) (.int .i64 1) (.bool false) (.slice A 0 c) 93
   obtain ⟨q0, q1, q2, f0, f1, f2, _⟩ := F
   obtain ⟨G, X⟩ := hid2 N O
   clear C J K H I N O
   go_enter Tryz.func171, Tryz.ntmps171
   go_wp2
   refine bodyPost_ret (res_place rfl _ (w.heap.size + 2) rfl G.out.c0 G.out.c1 G.out.c2) rfl ?_
   exact ⟨A, c, rfl, S.out.anyz, X.out⟩
 · obtain ⟨rfl, rfl, rfl⟩ := h3.bot (by
    rw [← hz]
    unfold downE
    rw [if_pos (by omega)]
    exact hx)
   have S := hid hu
   clear hz ex hu hv hl hl2 hy0 P h2 h3
   generalize k.length = L2 at *
   simp only [List.length_nil] at *
   obtain ⟨D, E, F, C⟩ := boxS w (.int .i64 (-1)) (.bool false) (.slice A 0 c) (.int .i64 0) (.bool t) (.slice B L2 f) (.int .i64 0) (.bool false) (.slice none 0 0) 93
   obtain ⟨J, K, H, I⟩ := hid4 D E F C
   obtain ⟨q, u, v, _, _, _, _⟩ := D
   obtain ⟨b0, b1, b2, _, _, _, _⟩ := E
   obtain ⟨_, _, N, O⟩ := boxS w (.int .i64 (-1)) (.bool false) (.slice A 0 c) (.int .i64 0) (.bool t) (.slice B L2 f) (.int .i64 (-1)) (.bool false) (.slice A 0 c) 93
   obtain ⟨q0, q1, q2, f0, f1, f2, _⟩ := F
   obtain ⟨G, X⟩ := hid2 N O
   clear C J K H I N O
   go_enter Tryz.func171, Tryz.ntmps171
   go_wp2
   refine bodyPost_ret (res_place rfl _ (w.heap.size + 2) rfl G.out.c0 G.out.c1 G.out.c2) rfl ?_
   exact ⟨A, c, rfl, S.out.anyz, X.out⟩
def shrLo (x y z t : Int) : Int := lo4 (downE bigZ x z) (downE bigZ x t) (downE bigZ y z) (downE bigZ y t)
def shrHi (x y z t : Int) : Int := hi4 (downE bigZ x z) (downE bigZ x t) (downE bigZ y z) (downE bigZ y t)
theorem icrossed_over {w : World} {n1 : Bool} 
  (u1 : U64s w Z1 A a l0) (u2 : U64s w Z2 B b l1) (u3 : U64s w Z3 C c k0) (u4 : U64s w Z4 D d k1) (h1 : okA n0 s0 l0 n1 s1 l1 = true) (h2 : okA m0 t0 k0 m1 t1 k1 = true)
  (q1 : l0.length ≤ 6000) (q2 : l1.length ≤ 6000) (q3 : k0.length ≤ 6000) (q4 : k1.length ≤ 6000) (hq : loV m0 t0 k0 ≠ 0 ∧ hiV m1 t1 k1 ≠ 0)
  (hz0 : z0 = divLo (loV n0 s0 l0) (hiV n1 s1 l1) (loV m0 t0 k0) (hiV m1 t1 k1)) (hz1 : z1 = divHi (loV n0 s0 l0) (hiV n1 s1 l1) (loV m0 t0 k0) (hiV m1 t1 k1)) (gm : z0 < bigZ) (gM : -bigZ < z1) (e0 : EndL z0 rn0 rs0 rl0) (e1 : EndH z1 rn1 rs1 rl1) :
  Calls Tryz.prog 145 #[.agg #[.bool n0, .bool s0, .slice A l0.length a, .bool n1, .bool s1, .slice B l1.length b], .agg #[.bool m0, .bool t0, .slice C k0.length c, .bool m1, .bool t1, .slice D k1.length d], .func (.func 167) #[] #[]] w fun e w' => ∃ rA ra rB rb, e = .returned (.agg #[.bool rn0, .bool rs0, .slice rA rl0.length ra, .bool rn1, .bool rs1, .slice rB rl1.length rb]) ∧ U64s w' (new w.heap.size) rA ra rl0 ∧ U64s w' (new w.heap.size) rB rb rl1 ∧ Below w.heap.size w w' :=
 icrossed_any (n := 6000) (by omega) (by simp) (op := overE bigZ) u1 u2 u3 u4 h1 h2 (by omega) (by omega) (by omega) (by omega) (fun _ p q hl _ _ => (ext_over (p.ext hl)).up (by omega)) (fun _ hy p q r hz u v hl hk => iover_p p q r hz (hy.elim (fun e => e ▸ hq.1) (fun e => e ▸ hq.2)) u v hl hk) hz0 hz1 gm gM e0 e1
theorem icrossed_down {w : World} {n1 : Bool} 
  (u1 : U64s w Z1 A a l0) (u2 : U64s w Z2 B b l1) (u3 : U64s w Z3 C c k0) (u4 : U64s w Z4 D d k1) (h1 : okA n0 s0 l0 n1 s1 l1 = true) (h2 : okA m0 t0 k0 m1 t1 k1 = true)
  (q1 : l0.length ≤ 6000) (q2 : l1.length ≤ 6000) (q3 : k0.length ≤ 6000) (q4 : k1.length ≤ 6000) (hq : (0 < loV m0 t0 k0 ∧ loV m0 t0 k0 < bigZ) ∧ 0 < hiV m1 t1 k1 ∧ hiV m1 t1 k1 < bigZ)
  (hz0 : z0 = shrLo (loV n0 s0 l0) (hiV n1 s1 l1) (loV m0 t0 k0) (hiV m1 t1 k1)) (hz1 : z1 = shrHi (loV n0 s0 l0) (hiV n1 s1 l1) (loV m0 t0 k0) (hiV m1 t1 k1)) (gm : z0 < bigZ) (gM : -bigZ < z1) (e0 : EndL z0 rn0 rs0 rl0) (e1 : EndH z1 rn1 rs1 rl1) :
  Calls Tryz.prog 145 #[.agg #[.bool n0, .bool s0, .slice A l0.length a, .bool n1, .bool s1, .slice B l1.length b], .agg #[.bool m0, .bool t0, .slice C k0.length c, .bool m1, .bool t1, .slice D k1.length d], .func (.func 171) #[] #[]] w fun e w' => ∃ rA ra rB rb, e = .returned (.agg #[.bool rn0, .bool rs0, .slice rA rl0.length ra, .bool rn1, .bool rs1, .slice rB rl1.length rb]) ∧ U64s w' (new w.heap.size) rA ra rl0 ∧ U64s w' (new w.heap.size) rB rb rl1 ∧ Below w.heap.size w w' :=
 icrossed_any (n := 6000) (by omega) (by simp) (op := downE bigZ) u1 u2 u3 u4 h1 h2 (by omega) (by omega) (by omega) (by omega) (fun hy p q hl _ _ => (ext_down (p.ext hl) (hy.elim (fun e => e ▸ hq.1.1) (fun e => e ▸ hq.2.1))).up (by omega)) (fun _ hy p q r hz u v hl hk => idown_p p q r hz (hy.elim (fun e => e ▸ hq.1.1) (fun e => e ▸ hq.2.1)) (hy.elim (fun e => e ▸ hq.1.2) (fun e => e ▸ hq.2.2)) u v hl hk) hz0 hz1 gm gM e0 e1
def IvsO (w : World) (B0 : Nat) (v : Value) (xs : List Value) (ps : List Iv) : Prop :=
 ∀ j (hj : j < ps.length), ∃ A a B b, (xs[j * 6]? = some (.bool ps[j].n0) ∧ xs[j * 6 + 1]? = some (.bool ps[j].s0) ∧ xs[j * 6 + 2]? = some (.slice A ps[j].l0.length a) ∧ xs[j * 6 + 3]? = some (.bool ps[j].n1) ∧ xs[j * 6 + 4]? = some (.bool ps[j].s1) ∧ xs[j * 6 + 5]? = some (.slice B ps[j].l1.length b)) ∧ U64s w (newX B0 v) A a ps[j].l0 ∧ U64s w (newX B0 v) B b ps[j].l1
theorem IvsO.nil (w : World) (B0 : Nat) (v : Value) (xs : List Value) : IvsO w B0 v xs [] := fun j hj => absurd hj (by simp)
theorem IvsO.below {w : World} {ps : List Iv} (h : IvsO w B0 v xs ps) (hb : Below w.heap.size w w') : IvsO w' B0 v xs ps := fun j hj => by
 obtain ⟨A, a, B, b, C, D, E⟩ := h j hj
 exact ⟨A, a, B, b, C, D.below hb, E.below hb⟩
theorem IvsO.snoc {w : World} {v' : Value} {ps : List Iv} {p : Iv} (h : IvsO w B0 v xs ps) (hl : xs.length = ps.length * 6) (hg : w.grownBy w' v.ownBlock) (hf : Fresh w v v') (hu : U64s w (newX B0 v) A a p.l0) (hv : U64s w (newX B0 v) B b p.l1) :
  IvsO w' B0 v' (xs ++ [.bool p.n0, .bool p.s0, .slice A p.l0.length a, .bool p.n1, .bool p.s1, .slice B p.l1.length b]) (ps ++ [p]) := fun j hj => by
 rw [List.length_append, List.length_singleton] at hj
 by_cases hj2 : j < ps.length
 · obtain ⟨C, D, E, F, ⟨G, H, I, J, K, L⟩, u0, u1⟩ := h j hj2
   refine ⟨C, D, E, F, ?_, ?_, ?_⟩
   · rw [List.getElem_append_left hj2, List.getElem?_append_left (by omega), List.getElem?_append_left (by omega), List.getElem?_append_left (by omega), List.getElem?_append_left (by omega), List.getElem?_append_left (by omega), List.getElem?_append_left (by omega)]
     exact ⟨G, H, I, J, K, L⟩
   · rw [List.getElem_append_left hj2]; exact u0.grow hg hf
   · rw [List.getElem_append_left hj2]; exact u1.grow hg hf
 · obtain rfl : j = ps.length := by omega
   have e : (ps ++ [p])[ps.length]'(by simp) = p := by rw [List.getElem_append_right (by omega)]; simp
   refine ⟨A, a, B, b, ?_, ?_, ?_⟩
   · rw [e, List.getElem?_append_right (by omega), List.getElem?_append_right (by omega), List.getElem?_append_right (by omega), List.getElem?_append_right (by omega), List.getElem?_append_right (by omega), List.getElem?_append_right (by omega), hl, Nat.sub_self, show ps.length * 6 + 1 - ps.length * 6 = 1 by omega, show ps.length * 6 + 2 - ps.length * 6 = 2 by omega, show ps.length * 6 + 3 - ps.length * 6 = 3 by omega, show ps.length * 6 + 4 - ps.length * 6 = 4 by omega, show ps.length * 6 + 5 - ps.length * 6 = 5 by omega]
     exact ⟨rfl, rfl, rfl, rfl, rfl, rfl⟩
   · rw [e]; exact hu.grow hg hf
   · rw [e]; exact hv.grow hg hf
theorem IvsO.fin {w : World} {B : Nat} {ps : List Iv} {e : TypeId} (h : IvsO w B0 v xs ps) (hown : w.ownsRow B e 6 v ps.length xs) : ∃ A c, v = .slice A ps.length c ∧ IvsAt w (new B0) A c ps ∧ ∀ b o, A = some ⟨b, o, none⟩ → B ≤ b := by
 have C := hown.2
 rcases C with ⟨e1, h0⟩ | ⟨g, cap, cur, e1, hB, hh, hcap, hm, _⟩
 · have D : ps = [] := List.eq_nil_of_length_eq_zero h0
   subst D
   exact ⟨none, 0, e1, IvsAt.nil _ _, fun b o h => by cases h⟩
 · subst e1
   refine ⟨some ⟨g, 0, none⟩, cap, rfl, ⟨hcap, by simpa [maxLen] using hm, fun h0 => ⟨g, 0, rfl, (hown.lt g rfl).2, fun j hj => ?_⟩⟩, fun b o h => by injection h with h; injection h with h1 h2; omega⟩
   obtain ⟨A, a, B, b, ⟨E, F, G, H, I, J⟩, u0, u1⟩ := h j hj
   refine ⟨A, a, B, b, ⟨?_, ?_, ?_, ?_, ?_, ?_⟩, u0.mono (newX_le _ _), u1.mono (newX_le _ _)⟩
   · rw [Nat.zero_add, hown.cellAt (j * 6) (by omega)]; exact E
   · rw [Nat.zero_add, hown.cellAt (j * 6 + 1) (by omega)]; exact F
   · rw [Nat.zero_add, hown.cellAt (j * 6 + 2) (by omega)]; exact G
   · rw [Nat.zero_add, hown.cellAt (j * 6 + 3) (by omega)]; exact H
   · rw [Nat.zero_add, hown.cellAt (j * 6 + 4) (by omega)]; exact I
   · rw [Nat.zero_add, hown.cellAt (j * 6 + 5) (by omega)]; exact J
def SD (k : Nat) : Int × Int := if k = 0 then (-bigZ, -1) else (1, bigZ)
def partK (P : Int × Int) (k : Nat) : List (Int × Int) := (if 1 ≤ k ∧ P.1 ≤ -1 then [(P.1, min P.2 (-1))] else []) ++ (if 2 ≤ k ∧ 1 ≤ P.2 then [(max P.1 1, P.2)] else [])
theorem partK_zero (P : Int × Int) : partK P 0 = [] := by simp [partK]
theorem partK_two (P : Int × Int) : partK P 2 = partsP P := by simp [partK, partsP]
theorem big_one : (1 : Int) < bigZ := by
 have := wN_le (show 1 ≤ 6400 by omega)
 have e : wN 1 = 18446744073709551616 := wN_one
 omega
theorem partK_step {k : Nat} {P : Int × Int} (h : IvN N P.1 P.2) (hN : N ≤ 6000) (hk : k < 2) {g : Bool} (hg : decide (max P.1 (SD k).1 ≤ min P.2 (SD k).2) = g) : partK P (k + 1) = if g = true then partK P k ++ [(max P.1 (SD k).1, min P.2 (SD k).2)] else partK P k := by
 obtain ⟨A, B, F, G, H⟩ := h
 have C := big_one
 have D := A.range (by omega)
 have E := B.range (by omega)
 obtain rfl | rfl : k = 0 ∨ k = 1 := by omega
 · unfold SD partK at *
   simp only [if_true] at hg ⊢
   have e : max P.1 (-bigZ) = P.1 := by omega
   rw [e] at hg ⊢
   subst hg
   by_cases h1 : P.1 ≤ -1
   · rw [if_pos ⟨by omega, h1⟩, decide_eq_true (by omega)]; simp
   · rw [if_neg (by omega), decide_eq_false (by omega)]; simp
 · unfold SD partK at *
   simp only [show ¬ (1 = 0) by omega, if_false] at hg ⊢
   have e : min P.2 bigZ = P.2 := by omega
   rw [e] at hg ⊢
   subst hg
   by_cases h2 : 1 ≤ P.2
   · rw [if_pos (show 2 ≤ 1 + 1 ∧ 1 ≤ P.2 by omega), decide_eq_true (by omega)]; simp
   · rw [if_neg (show ¬ (2 ≤ 1 + 1 ∧ 1 ≤ P.2) by omega), decide_eq_false (by omega)]; simp
theorem ivn_side (hN : 1 ≤ N) (k : Nat) : IvN N (SD k).1 (SD k).2 := by
 have A := big_one
 have B : (1 : Int) < wN N := by
  have := wN_mono hN
  have e : wN 1 = 18446744073709551616 := wN_one
  omega
 unfold SD
 split
 · exact ⟨.inr (.inl rfl), .inr (.inr (by omega)), by dsimp only; omega, by dsimp only; omega, by dsimp only; omega⟩
 · exact ⟨.inr (.inr (by omega)), .inl rfl, by dsimp only; omega, by dsimp only; omega, by dsimp only; omega⟩
theorem side_w (k : Nat) : IvW (SD k) (ivOf (SD k).1 (SD k).2) := IvW.mk _
theorem side_lo : (ivOf (SD 0).1 (SD 0).2).n0 = true ∧ (ivOf (SD 0).1 (SD 0).2).s0 = false ∧ (ivOf (SD 0).1 (SD 0).2).l0 = [] ∧ (ivOf (SD 0).1 (SD 0).2).n1 = false ∧ Nm (-1) (ivOf (SD 0).1 (SD 0).2).s1 (ivOf (SD 0).1 (SD 0).2).l1 := by
 have A := big_one
 rw [show SD 0 = (-bigZ, -1) from rfl]
 refine ⟨?_, ?_, ?_, ?_, ?_⟩
 · exact decide_eq_true (p := -bigZ = -bigZ) rfl
 · exact decide_eq_false (p := -bigZ < -bigZ ∧ -bigZ < 0) (by omega)
 · exact if_neg (c := -bigZ < -bigZ ∧ -bigZ < bigZ) (t := limbs (-bigZ).natAbs) (by omega)
 · exact decide_eq_false (p := -1 = bigZ) (by omega)
 · exact nm_e (n := -1) ⟨by omega, by omega⟩
theorem side_hi : (ivOf (SD 1).1 (SD 1).2).n0 = false ∧ Nm 1 (ivOf (SD 1).1 (SD 1).2).s0 (ivOf (SD 1).1 (SD 1).2).l0 ∧ (ivOf (SD 1).1 (SD 1).2).n1 = true ∧ (ivOf (SD 1).1 (SD 1).2).s1 = false ∧ (ivOf (SD 1).1 (SD 1).2).l1 = [] := by
 have A := big_one
 rw [show SD 1 = (1, bigZ) from rfl]
 refine ⟨?_, ?_, ?_, ?_, ?_⟩
 · exact decide_eq_false (p := 1 = -bigZ) (by omega)
 · exact nm_e (n := 1) ⟨by omega, by omega⟩
 · exact decide_eq_true (p := bigZ = bigZ) rfl
 · exact decide_eq_false (p := -bigZ < bigZ ∧ bigZ < 0) (by omega)
 · exact if_neg (c := -bigZ < bigZ ∧ bigZ < bigZ) (t := limbs bigZ.natAbs) (by omega)
theorem six_news {t : TypeId} : ∀ j u, [a0, a1, a2, a3, a4, a5][j]? = some u → (W.alloc (.cells #[a0, a1, a2, a3, a4, a5] t)).cell? ⟨W.heap.size, j, none⟩ = some u := by
 intro j u h
 have A : j < 6 := by
  have B := (List.getElem?_eq_some_iff.1 h).1
  have C : ([a0, a1, a2, a3, a4, a5] : List Value).length = 6 := rfl
  omega
 refine cell_newest rfl ?_
 rw [← h]
 exact List.getElem?_toArray
theorem imeet_w {w : World} {p r : Iv} (hp : IvW P p) (gp : IvN N P.1 P.2) (hN : N ≤ 6000) (hq : IvW Q q) (gq : IvN M Q.1 Q.2) (hM : M ≤ 6000) (hr : IvW (max P.1 Q.1, min P.2 Q.2) r) {g : Bool} (hg : decide (max P.1 Q.1 ≤ min P.2 Q.2) = g) (u1 : U64s w Z1 A a p.l0) (u2 : U64s w Z2 B b p.l1) (u3 : U64s w Z3 C c q.l0) (u4 : U64s w Z4 D d q.l1) :
  Calls Tryz.prog 83 #[.agg #[.bool p.n0, .bool p.s0, .slice A p.l0.length a, .bool p.n1, .bool p.s1, .slice B p.l1.length b], .agg #[.bool q.n0, .bool q.s0, .slice C q.l0.length c, .bool q.n1, .bool q.s1, .slice D q.l1.length d]] w fun e w' => (g = true → ∃ rA ra rB rb, e = .returned (.tuple #[.agg #[.bool r.n0, .bool r.s0, .slice rA r.l0.length ra, .bool r.n1, .bool r.s1, .slice rB r.l1.length rb], .bool true]) ∧ U64s w' (new w.heap.size) rA ra r.l0 ∧ U64s w' (new w.heap.size) rB rb r.l1) ∧ (g = false → e = .returned (.tuple #[.agg #[.bool false, .bool false, .slice none 0 0, .bool false, .bool false, .slice none 0 0], .bool false])) ∧ Below w.heap.size w w' := by
 have E := hp.k gp (by omega)
 have F := hq.k gq (by omega)
 exact imeet_p u1 u2 u3 u4 E.ok F.ok (by have := E.q0; omega) (by have := E.q1; omega) (by have := F.q0; omega) (by have := F.q1; omega) (by rw [E.lo, F.lo]) (by rw [E.hi, F.hi]) hr.1 hr.2 hg
theorem iparted_w {w : World} {p : Iv} (hp : IvW P p) (gp : IvN N P.1 P.2) (hN : N ≤ 6000) (u0 : U64s w Z1 A a p.l0) (u1 : U64s w Z2 B b p.l1) :
  Calls Tryz.prog 166 #[.agg #[.bool p.n0, .bool p.s0, .slice A p.l0.length a, .bool p.n1, .bool p.s1, .slice B p.l1.length b]] w fun e w' => ∃ Av cv, e = .returned (.slice Av (partsP P).length cv) ∧ IvsAt w' (new w.heap.size) Av cv (fmOf (partsP P)) ∧ (∀ b o, Av = some ⟨b, o, none⟩ → w.heap.size ≤ b) ∧ Below w.heap.size w w' := by
 have Kn : Below w.heap.size w (w.alloc (.cells #[.bool p.n0, .bool p.s0, .slice A p.l0.length a, .bool p.n1, .bool p.s1, .slice B p.l1.length b] 39)) := (Below.refl _ _).alloc (Nat.le_refl _) _
 have U := hid (Box6.new w (.bool p.n0) (.bool p.s0) (.slice A p.l0.length a) (.bool p.n1) (.bool p.s1) (.slice B p.l1.length b) 39)
 obtain ⟨G, F, nm, Kx⟩ : ∃ G F, Nm (-1) G F ∧ IvW (SD 0) ⟨true, false, [], false, G, F⟩ := by
  obtain ⟨h0, h1, h2, h3, h4⟩ := side_lo
  refine ⟨_, _, h4, ?_⟩
  have h := side_w 0
  unfold IvW at h ⊢
  rwa [h0, h1, h2, h3] at h
 obtain ⟨s1, l1, n1, Ky⟩ : ∃ s1 l1, Nm 1 s1 l1 ∧ IvW (SD 1) ⟨false, s1, l1, true, false, []⟩ := by
  obtain ⟨h0, h1, h2, h3, h4⟩ := side_hi
  refine ⟨_, _, h1, ?_⟩
  have h := side_w 1
  unfold IvW at h ⊢
  rwa [h0, h2, h3, h4] at h
 have q1 : l1.length ≤ 1 := by rw [n1.2]; exact len_limbs_le (by decide)
 have qm : F.length ≤ 1 := by rw [nm.2]; exact len_limbs_le (by decide)
 obtain ⟨Hp, HG, Kz, KA, OF, NG⟩ := hid6 hp gp Kx Ky (fun (W : World) => wof_p (w := W) n1 (by omega)) (fun (W : World) (C : Option Addr) (c : Nat) (Z : Zone) (u : U64s W Z C c l1) => wneg_n n1 nm rfl (by omega) u)
 obtain ⟨KB, KC, d⟩ := hid3 (fun (W : World) (C : Option Addr) (c : Nat) (Z : Zone) (u : U64s W Z C c F) => iat_p (s := G) u (by omega)) (fun (W : World) (C : Option Addr) (c : Nat) (Z : Zone) (u : U64s W Z C c l1) => iat_p (s := s1) u (by omega)) Kn
 clear hp gp Kx Ky n1 nm Kn
 go_enter Tryz.func166, Tryz.ntmps166
 go_wp2_with fail
 refine (OF.out _).mono ?_
 rintro e j ⟨C1, c1, rfl, uo, J⟩
 go_upto_region 2 with fail
 have I : Below j.heap.size j (j.alloc (.cells #[.bool s1, .slice C1 l1.length c1] 35)) := (Below.refl _ _).alloc (Nat.le_refl _) _
 have V := hid (Box.new j (.bool s1) (.slice C1 l1.length c1) 35)
 obtain ⟨gO, Kh⟩ : ∃ gO, gO = j.heap.size := ⟨_, rfl⟩
 rw [← Kh] at V
 have m := hid (uo.below I)
 replace U := hid ((U.out.below J).below I)
 replace d := hid (from_ (from_ d.out J) I)
 clear J I uo OF
 generalize q : j.alloc (.cells #[.bool s1, .slice C1 l1.length c1] 35) = W1 at *
 try simp only [← Kh]
 clear q Kh
 obtain ⟨z, x1, _, _, _⟩ := id V.out
 go_wp2_with fail
 refine (NG.out _ _ _ _ m.out).mono ?_
 rintro e H ⟨D1, d1, rfl, um, J⟩
 have I : Below H.heap.size H (H.alloc (.cells #[.bool G, .slice D1 F.length d1] 35)) := (Below.refl _ _).alloc (Nat.le_refl _) _
 have BM := hid (Box.new H (.bool G) (.slice D1 F.length d1) 35)
 obtain ⟨gM, Ki⟩ : ∃ gM, gM = H.heap.size := ⟨_, rfl⟩
 rw [← Ki] at BM
 have UM := hid (um.below I)
 replace m := hid ((m.out.below J).below I)
 replace V := hid ((V.out.below J).below I)
 replace U := hid ((U.out.below J).below I)
 replace d := hid (from_ (from_ d.out J) I)
 clear J I um NG z x1
 generalize hW2 : H.alloc (.cells #[.bool G, .slice D1 F.length d1] 35) = W2 at *
 have T := And.intro (And.intro BM.out.c0 BM.out.c1) (And.intro V.out.c0 V.out.c1)
 replace T := c4_keep T bdr_
 have X := hid (Below.refl W2.heap.size W2).drew
 go_upto_region 3 with fail
 try simp only [hW2]
 try simp only [← Ki]
 clear hW2 Ki
 first | go_region_held3 (fun w' => (w'.cell? ⟨gM, 0, none⟩ = some (.bool G) ∧ w'.cell? ⟨gM, 1, none⟩ = some (.slice D1 F.length d1)) ∧ w'.cell? ⟨gO, 0, none⟩ = some (.bool s1) ∧ w'.cell? ⟨gO, 1, none⟩ = some (.slice C1 l1.length c1))
  (first | with_reducible exact T | (with_reducible apply c4_al rfl; with_reducible exact T) | (with_reducible apply c4_dr rfl; with_reducible exact T))
  (((first
    | (go_at_call 176; with_reducible refine (inone_p).mono ?_; rintro e E ⟨rfl, Y⟩)
    | (go_at_call 62; with_reducible refine (KB.out _ _ _ _ (UM.out.below X.out)).mono ?_; rintro e E ⟨L, M, rfl, vm, Y⟩)
    | (go_at_call 62; with_reducible refine (KC.out _ _ _ _ (m.out.below X.out)).mono ?_; rintro e E ⟨O, Q, rfl, vo, Y⟩)); (try replace vm := vm.below Y); (try replace vo := vo.below Y); replace T := c4_keep T Y; replace X := hid (from_ X.out Y); clear Y)) | fail
 all_goals
  have K := (Below.refl E.heap.size E).alloc (Nat.le_refl _) (.cells #[.bool true, .bool false, .slice none 0 0, .bool false, .bool G, .slice L F.length M, .bool false, .bool s1, .slice O l1.length Q, .bool true, .bool false, .slice none 0 0] 39)
  have Ko : Hid (∀ k, k < 2 → ∃ (D : Iv) (F0 : Option Addr) (f0 : Nat) (F1 : Option Addr) (f1 : Nat), ((E.alloc (.cells #[.bool true, .bool false, .slice none 0 0, .bool false, .bool G, .slice L F.length M, .bool false, .bool s1, .slice O l1.length Q, .bool true, .bool false, .slice none 0 0] 39)).cell? ⟨E.heap.size, k * 6, none⟩ = some (.bool D.n0) ∧ (E.alloc (.cells #[.bool true, .bool false, .slice none 0 0, .bool false, .bool G, .slice L F.length M, .bool false, .bool s1, .slice O l1.length Q, .bool true, .bool false, .slice none 0 0] 39)).cell? ⟨E.heap.size, k * 6 + 1, none⟩ = some (.bool D.s0) ∧ (E.alloc (.cells #[.bool true, .bool false, .slice none 0 0, .bool false, .bool G, .slice L F.length M, .bool false, .bool s1, .slice O l1.length Q, .bool true, .bool false, .slice none 0 0] 39)).cell? ⟨E.heap.size, k * 6 + 2, none⟩ = some (.slice F0 D.l0.length f0) ∧ (E.alloc (.cells #[.bool true, .bool false, .slice none 0 0, .bool false, .bool G, .slice L F.length M, .bool false, .bool s1, .slice O l1.length Q, .bool true, .bool false, .slice none 0 0] 39)).cell? ⟨E.heap.size, k * 6 + 3, none⟩ = some (.bool D.n1) ∧ (E.alloc (.cells #[.bool true, .bool false, .slice none 0 0, .bool false, .bool G, .slice L F.length M, .bool false, .bool s1, .slice O l1.length Q, .bool true, .bool false, .slice none 0 0] 39)).cell? ⟨E.heap.size, k * 6 + 4, none⟩ = some (.bool D.s1) ∧ (E.alloc (.cells #[.bool true, .bool false, .slice none 0 0, .bool false, .bool G, .slice L F.length M, .bool false, .bool s1, .slice O l1.length Q, .bool true, .bool false, .slice none 0 0] 39)).cell? ⟨E.heap.size, k * 6 + 5, none⟩ = some (.slice F1 D.l1.length f1)) ∧ U64s (E.alloc (.cells #[.bool true, .bool false, .slice none 0 0, .bool false, .bool G, .slice L F.length M, .bool false, .bool s1, .slice O l1.length Q, .bool true, .bool false, .slice none 0 0] 39)) old F0 f0 D.l0 ∧ U64s (E.alloc (.cells #[.bool true, .bool false, .slice none 0 0, .bool false, .bool G, .slice L F.length M, .bool false, .bool s1, .slice O l1.length Q, .bool true, .bool false, .slice none 0 0] 39)) old F1 f1 D.l1 ∧ IvW (SD k) D) := fun k hk => by
   obtain rfl | rfl : k = 0 ∨ k = 1 := by omega
   · exact ⟨_, none, 0, L, M, ⟨cell_newest rfl rfl, cell_newest rfl rfl, cell_newest rfl rfl, cell_newest rfl rfl, cell_newest rfl rfl, cell_newest rfl rfl⟩, U64s.nil _ _, (vm.below K).mono (le_old _), Kz.out⟩
   · exact ⟨_, O, Q, none, 0, ⟨cell_newest rfl rfl, cell_newest rfl rfl, cell_newest rfl rfl, cell_newest rfl rfl, cell_newest rfl rfl, cell_newest rfl rfl⟩, (vo.below K).mono (le_old _), U64s.nil _ _, KA.out⟩
  obtain ⟨g3, Kj⟩ : ∃ g3, g3 = E.heap.size := ⟨_, rfl⟩
  rw [← Kj] at Ko
  have Kc := hid (from_ (from_ d.out X.out) K)
  replace U := hid ((U.out.below X.out).below K)
  clear T vm vo K V BM m UM Kz KA KB KC X d
  generalize hW3 : E.alloc (.cells #[.bool true, .bool false, .slice none 0 0, .bool false, .bool G, .slice L F.length M, .bool false, .bool s1, .slice O l1.length Q, .bool true, .bool false, .slice none 0 0] 39) = W3 at *
  go_wp2
  try simp only [hW3]
  try simp only [← Kj]
  clear hW3 Kj
  go_loopw [2, 26] (fun v i wr => ∃ (vr : Value) (k : Nat) (xs : List Value) (R : List Iv), v = vr ∧ k ≤ 2 ∧ i = .int .i64 (k : Int) ∧ R = fmOf (partK P k) ∧ R.length ≤ k ∧ wr.ownsRow W3.heap.size 39 6 vr R.length xs ∧ IvsO wr w.heap.size vr xs R ∧ Below W3.heap.size W3 wr) (fun _ i _ => 2 - (intOf i).toNat)
  case atStart => exact ⟨_, 0, [], [], rfl, Nat.zero_le _, rfl, by rw [partK_zero]; rfl, Nat.zero_le _, World.ownsRow_nil _ _ _ _, IvsO.nil _ _ _ _, Below.refl _ _⟩
  case round =>
   obtain ⟨v, k, xs, R, KO, hk, rfl, Kf, KD, Ka, Kg, S⟩ := hrel
   have KM := KO.symm
   subst KM
   by_cases hlt : k < 2
   · obtain ⟨D, F0, f0, F1, f1, c6, KE, KF, KG⟩ := Ko.out k hlt
     obtain ⟨g, hg⟩ : ∃ g, decide (max P.1 (SD k).1 ≤ min P.2 (SD k).2) = g := ⟨_, rfl⟩
     obtain ⟨r, hr⟩ : ∃ r, r = ivOf (max P.1 (SD k).1) (min P.2 (SD k).2) := ⟨_, rfl⟩
     have Kp : IvW (max P.1 (SD k).1, min P.2 (SD k).2) r := by rw [hr]; exact IvW.mk _
     have Kq := partK_step HG.out hN hlt hg
     have q := from_ Kc.out S
     have MT := hid (fun (W : World) (h : Below wr.heap.size wr W) => imeet_w (w := W) Hp.out HG.out hN KG (ivn_side (N := 6000) (by omega) k) (by omega) Kp hg ((u0.below q).below h) ((u1.below q).below h) ((KE.below S).below h) ((KF.below S).below h))
     have KN := six_keep c6 S
     obtain ⟨z, x1, x2, x3, x4, x5⟩ := KN
     have Kr := U.out.below S
     obtain ⟨y0, y1, y2, y3, y4, y5, _, _, _, _, _, _, K4⟩ := id Kr
     have hi3 : (k : Int) < 2 := by omega
     have Ks : ∀ b, v.ownBlock = some b → W3.heap.size ≤ b ∧ b < wr.heap.size := fun b hb => Ka.lt b hb
     obtain ⟨Kk, HO, Kb, KH, KI, KJ⟩ := hid6 Ks Ka S Kf KD Kg
     obtain ⟨KK, Hr⟩ := hid2 Kq hr
     have I : Below wr.heap.size wr (wr.alloc (.cells #[.bool D.n0, .bool D.s0, .slice F0 D.l0.length f0, .bool D.n1, .bool D.s1, .slice F1 D.l1.length f1] 39)) := (Below.refl _ _).alloc (Nat.le_refl _) _
     have x := hid I
     obtain ⟨i0, hi, KP, KQ, KR⟩ := info_parts infoIv
     clear Ks Ka S Kf KD Kg Kq hr Kp I q c6 KE KF KG Kr hg
     go_wp2_with fail
     refine (MT.out _ x.out).mono ?_
     rintro e H ⟨hT, hF, J⟩
     have Kd := hid (from_ (from_ (Below.refl _ _) x.out) J)
     clear z x1 x2 x3 x4 x5 y0 y1 y2 y3 y4 y5 MT
     cases g with
     | false =>
       obtain rfl := hF rfl
       obtain ⟨KS, KT, KU, Kl⟩ := hid4 (from_ (from_ Kb.out Kd.out) ((Below.refl H.heap.size H).alloc (Nat.le_refl _) (.cells #[.bool false, .bool false, .slice none 0 0, .bool false, .bool false, .slice none 0 0] 39))) ((own_below HO.out Kd.out).alloc (.cells #[.bool false, .bool false, .slice none 0 0, .bool false, .bool false, .slice none 0 0] 39)) ((KJ.out.below Kd.out).below ((Below.refl H.heap.size H).alloc (Nat.le_refl _) (.cells #[.bool false, .bool false, .slice none 0 0, .bool false, .bool false, .slice none 0 0] 39))) (show R = fmOf (partK P (k + 1)) by rw [KK.out]; simpa using KH.out)
       clear hT hF J
       go_wp2
       go_roundw
       case rel => exact ⟨_, k + 1, xs, R, rfl, by omega, by go_num, Kl.out, by have := KI.out; omega, KT.out, KU.out, KS.out⟩
       case measure => simp [intOf]; omega
     | true =>
       obtain ⟨rA, ra, rB, rb, rfl, v0, v1⟩ := hT rfl
       obtain ⟨KV, KW⟩ := hid2 v0 v1
       clear hT hF J v0 v1
       go_upto_region 8 with fail
       have Ke : Below H.heap.size H (H.alloc (.cells #[.bool r.n0, .bool r.s0, .slice rA r.l0.length ra, .bool r.n1, .bool r.s1, .slice rB r.l1.length rb] 39)) := (Below.refl _ _).alloc (Nat.le_refl _) _
       have B8 := Box6.new H (.bool r.n0) (.bool r.s0) (.slice rA r.l0.length ra) (.bool r.n1) (.bool r.s1) (.slice rB r.l1.length rb) 39
       obtain ⟨g8, Km⟩ : ∃ g8, g8 = H.heap.size := ⟨_, rfl⟩
       rw [← Km] at B8
       try simp only [← Km]
       have y := hid (from_ Kd.out Ke)
       have Kt : w.heap.size ≤ (wr.alloc (.cells #[.bool D.n0, .bool D.s0, .slice F0 D.l0.length f0, .bool D.n1, .bool D.s1, .slice F1 D.l1.length f1] 39)).heap.size := Nat.le_trans (from_ Kc.out Kb.out).size x.out.size
       obtain ⟨KX, KY⟩ := hid2 ((KV.out.toX (B := w.heap.size) (v := v) (fun b hb => Nat.lt_of_lt_of_le (Kk.out b hb).2 x.out.size) Kt).below Ke) ((KW.out.toX (B := w.heap.size) (v := v) (fun b hb => Nat.lt_of_lt_of_le (Kk.out b hb).2 x.out.size) Kt).below Ke)
       clear Km Ke
       generalize H.alloc (.cells #[.bool r.n0, .bool r.s0, .slice rA r.l0.length ra, .bool r.n1, .bool r.s1, .slice rB r.l1.length rb] 39) = W8 at *
       obtain ⟨z, x1, x2, x3, x4, x5, _, _, _, _, _, _, _⟩ := id B8
       have K3 := KI.out
       go_wp2_with (at_builtin; go_loud (refine wpList_appF _ rfl _ _ 26 rfl W3.heap.size 39 i0 (.agg #[.bool false, .bool false, .slice none 0 0, .bool false, .bool false, .slice none 0 0]) 6 80 Tryz.underlying26 hi KP KQ KR rfl (by omega) (by omega) _ _ _ rfl ((own_below HO.out y.out).alloc _) W8.heap.size [.bool r.n0, .bool r.s0, .slice rA r.l0.length ra, .bool r.n1, .bool r.s1, .slice rB r.l1.length rb] rfl rfl six_news (by simp [Value.oneCell']) (by omega) (by have h1 := Kb.out.size; have h2 := y.out.size; simp; omega) ?_); intro v' wb hown' hgrow hfresh)
       have K := (Below.refl W8.heap.size W8).alloc (Nat.le_refl _) (.cells #[.bool r.n0, .bool r.s0, .slice rA r.l0.length ra, .bool r.n1, .bool r.s1, .slice rB r.l1.length rb] 39)
       have Kv := (from_ (from_ Kb.out y.out) K).grown hgrow (from_ (from_ Kb.out y.out) K).size (fun b hb => (Kk.out b hb).1)
       obtain ⟨KZ, Kl, K0, K1⟩ := hid4 (IvsO.snoc (p := r) ((KJ.out.below y.out).below K) HO.out.1 hgrow hfresh (KX.out.below K) (KY.out.below K)) (show R ++ [r] = fmOf (partK P (k + 1)) by rw [KK.out]; (try simp only [if_true]); rw [KH.out, Hr.out]; simp [fmOf]) hown' Kv
       clear hgrow hfresh K hown' Kv z x1 x2 x3 x4 x5
       go_wp2
       go_roundw
       case rel => exact ⟨_, k + 1, _, R ++ [r], rfl, by omega, by go_num, Kl.out, by rw [List.length_append, List.length_singleton]; omega, by rw [List.length_append, List.length_singleton]; exact K0.out, KZ.out, K1.out⟩
       case measure => simp [intOf]; omega
   · obtain rfl : k = 2 := by omega
     obtain ⟨A9, a9, rfl, hX, KL⟩ := Kg.fin Ka
     rw [partK_two] at Kf
     subst Kf
     rw [fmOf_len] at *
     have HX := hid hX
     have Kw := Kc.out.size
     obtain ⟨K2, HE⟩ := hid2 (fun b o h => Nat.le_trans Kw (KL b o h)) (from_ Kc.out S)
     clear Ka Kg S hX KL Kw
     go_wp2
     go_ret
     exact ⟨A9, a9, rfl, HX.out, K2.out, HE.out⟩
def modM (Q : Int × Int) : Int := plusE bigZ (max (-Q.1) Q.2) (-1)
def modP (P Q : Int × Int) : Int × Int := if P.2 ≤ 0 then (max P.1 (-modM Q), 0) else if 0 ≤ P.1 then (0, min P.2 (modM Q)) else (max P.1 (-modM Q), min P.2 (modM Q))
theorem modM_ok {Q : Int × Int} (h : IvN N Q.1 Q.2) (h0 : ¬ (Q.1 = 0 ∧ Q.2 = 0)) (hN : N ≤ 6000) : Ext bigZ (wN N) (modM Q) ∧ 0 ≤ modM Q ∧ Ext bigZ (wN N) (max (-Q.1) Q.2) ∧ 1 ≤ max (-Q.1) Q.2 := by
 obtain ⟨D, E, I, J, K⟩ := h
 have F := bigZ_pos
 have G := wN_le (show N ≤ 6400 by omega)
 have H := wN_pos N
 have A : Ext bigZ (wN N) (max (-Q.1) Q.2) := ext_max D.neg E
 have B : 1 ≤ max (-Q.1) Q.2 := by omega
 refine ⟨?_, ?_, A, B⟩
 · unfold modM plusE
   generalize max (-Q.1) Q.2 = z at *
   unfold Ext at *
   have C := big_one
   rw [if_neg (show ¬ (z = -bigZ ∨ (-1 : Int) = -bigZ) by omega)]
   split
   · exact .inl rfl
   · exact .inr (.inr (by omega))
 · unfold modM plusE
   generalize max (-Q.1) Q.2 = z at *
   have C := big_one
   rw [if_neg (show ¬ (z = -bigZ ∨ (-1 : Int) = -bigZ) by omega)]
   split <;> omega
theorem ivn_mod {P Q : Int × Int} (g : IvN N P.1 P.2) (h : IvN N Q.1 Q.2) (h0 : ¬ (Q.1 = 0 ∧ Q.2 = 0)) (hN : N ≤ 6000) : IvN N (modP P Q).1 (modP P Q).2 := by
 obtain ⟨A, F, _, _⟩ := modM_ok h h0 hN
 obtain ⟨B, C, G, H, I⟩ := g
 have D := bigZ_pos
 have E := wN_pos N
 have z : Ext bigZ (wN N) 0 := .inr (.inr (by omega))
 unfold modP
 split
 · exact ⟨ext_max B A.neg, z, by dsimp only; omega, by dsimp only; omega, by dsimp only; omega⟩
 · split
   · exact ⟨z, ext_min C A, by dsimp only; omega, by dsimp only; omega, by dsimp only; omega⟩
   · exact ⟨ext_max B A.neg, ext_min C A, by dsimp only; omega, by dsimp only; omega, by dsimp only; omega⟩
theorem igreatest_q {w : World} {b d : Int} {l k : List Nat} (h1 : Pl x b s l) (h2 : Pl y d t k) (h3 : Pl z e r m) (hz : max x y = z) (hu : U64s w Z A c l) (hv : U64s w Y B f k) (hl : l.length ≤ 9000) (hl2 : k.length ≤ 9000) :
  Calls Tryz.prog 136 #[.agg #[.int .i64 b, .bool s, .slice A l.length c], .agg #[.int .i64 d, .bool t, .slice B k.length f]] w fun e' w' => ∃ A' c', e' = .returned (.agg #[.int .i64 e, .bool r, .slice A' m.length c']) ∧ U64s w' old A' c' m ∧ Below w.heap.size w w' := by
 obtain ⟨D, E, F, G, H, K⟩ := Pick.ex (decide (y ≤ x)) b s l A c d t k B f
 have g := K.pl h1 h2
 rw [show (bif decide (y ≤ x) then x else y) = z by rw [← hz]; by_cases h : y ≤ x <;> simp [h] <;> omega] at g
 have u := K.u64s hu hv
 obtain rfl := g.uniq.1.trans h3.uniq.1.symm
 obtain rfl := g.uniq.2.1.trans h3.uniq.2.1.symm
 obtain rfl := g.uniq.2.2.trans h3.uniq.2.2.symm
 refine (igreatest_p h1 h2 hu hv hl hl2 K).mono ?_
 rintro e' w' ⟨rfl, C⟩
 exact ⟨_, _, rfl, u.below C, C⟩
theorem ileast_q {w : World} {b d : Int} {l k : List Nat} (h1 : Pl x b s l) (h2 : Pl y d t k) (h3 : Pl z e r m) (hz : min x y = z) (hu : U64s w Z A c l) (hv : U64s w Y B f k) (hl : l.length ≤ 9000) (hl2 : k.length ≤ 9000) :
  Calls Tryz.prog 137 #[.agg #[.int .i64 b, .bool s, .slice A l.length c], .agg #[.int .i64 d, .bool t, .slice B k.length f]] w fun e' w' => ∃ A' c', e' = .returned (.agg #[.int .i64 e, .bool r, .slice A' m.length c']) ∧ U64s w' old A' c' m ∧ Below w.heap.size w w' := by
 obtain ⟨D, E, F, G, H, K⟩ := Pick.ex (decide (x ≤ y)) b s l A c d t k B f
 have g := K.pl h1 h2
 rw [show (bif decide (x ≤ y) then x else y) = z by rw [← hz]; by_cases h : x ≤ y <;> simp [h] <;> omega] at g
 have u := K.u64s hu hv
 obtain rfl := g.uniq.1.trans h3.uniq.1.symm
 obtain rfl := g.uniq.2.1.trans h3.uniq.2.1.symm
 obtain rfl := g.uniq.2.2.trans h3.uniq.2.2.symm
 refine (ileast_p h1 h2 hu hv hl hl2 K).mono ?_
 rintro e' w' ⟨rfl, C⟩
 exact ⟨_, _, rfl, u.below C, C⟩
def NoU (w : World) (g : Nat) : Prop := ∀ o n, w.cell? ⟨g, o, none⟩ ≠ some (.int .u64 n)
structure Bx3 (w : World) (g : Nat) : Prop where
 box : Box3 w g (.int .i64 0) (.bool false) (.slice none 0 0)
 no : NoU w g
theorem NoU.below {w : World} (h : NoU w g) (hl : g < w.heap.size) (hb : Below w.heap.size w w') : NoU w' g := fun o n e => h o n ((World.cell?_of_block (w := w) (a := ⟨g, o, none⟩) (hb.block g hl)).symm.trans e)
theorem NoU.new (w : World) (x : Int) (s : Bool) (A : Option Addr) (n c : Nat) (t : TypeId) : NoU (w.alloc (.cells #[.int .i64 x, .bool s, .slice A n c] t)) w.heap.size := fun o m e => by
 have h := cell_of_row (w.alloc (.cells #[.int .i64 x, .bool s, .slice A n c] t)) w.heap.size o #[.int .i64 x, .bool s, .slice A n c] t (0, 0) (heap_alloc_new w _)
 rw [h] at e
 match o, e with
 | 0, e => cases e
 | 1, e => cases e
 | 2, e => cases e
 | o + 3, e => simp at e
theorem Bx3.new (w : World) (t : TypeId) : Bx3 (w.alloc (.cells #[.int .i64 0, .bool false, .slice none 0 0] t)) w.heap.size := ⟨Box3.new _ _ _ _ _, NoU.new _ _ _ _ _ _ _⟩
theorem Bx3.below {w : World} (h : Bx3 w g) (hb : Below w.heap.size w w') : Bx3 w' g := ⟨h.box.below hb, h.no.below h.box.lt hb⟩
theorem Bx3.new2 (w : World) (o : Obj) (t : TypeId) : Bx3 ((w.alloc o).alloc (.cells #[.int .i64 0, .bool false, .slice none 0 0] t)) (w.heap.size + 1) := by
 have h := Bx3.new (w.alloc o) t
 rw [World.size_alloc] at h
 exact h
def zNe (g : Nat) : Zone := ⟨fun b => b ≠ g, False⟩
theorem U64s.offB {w : World} {l : List Nat} (u : U64s w Z A c l) (h : NoU w g) : U64s w (zNe g) A c l :=
 ⟨u.small, u.cap, u.max, u.nul, fun h0 => by
  obtain ⟨b, o, e, _, _, C⟩ := u.row h0
  refine ⟨b, o, e, fun hbg => ?_, fun h => h.elim, C⟩
  subst hbg
  have B := C 0 _ (List.getElem?_eq_getElem h0)
  rw [List.getElem_map] at B
  exact h _ _ B⟩
theorem U64s.set3n {w : World} {l : List Nat} (u : U64s w Z A c l) (h : NoU w g) (x0 x1 x2 : Value) : U64s (((w.setCell ⟨g, 0, none⟩ x0).setCell ⟨g, 1, none⟩ x1).setCell ⟨g, 2, none⟩ x2) old A c l :=
 ((((u.offB h).set1 g 0 (fun h => h rfl) x0).set1 g 1 (fun h => h rfl) x1).set1 g 2 (fun h => h rfl) x2).mono (le_old _)
theorem NoU.set3 {w : World} (u : NoU w h) (hn : g ≠ h) (x0 x1 x2 : Value) : NoU (((w.setCell ⟨g, 0, none⟩ x0).setCell ⟨g, 1, none⟩ x1).setCell ⟨g, 2, none⟩ x2) h := fun o n e => by
 rw [World.cell?_setCell_other _ _ _ _ (fun h => hn (by injection h)), World.cell?_setCell_other _ _ _ _ (fun h => hn (by injection h)), World.cell?_setCell_other _ _ _ _ (fun h => hn (by injection h))] at e
 exact u o n e
structure Res1 (W0 w : World) (g : Nat) (b : Int) (s : Bool) (l : List Nat) (A : Option Addr) (c : Nat) : Prop where
 box : Box3 w g (.int .i64 b) (.bool s) (.slice A l.length c)
 no : NoU w g
 u : U64s w old A c l
 lo : W0.heap.size ≤ g
 bel : Below W0.heap.size W0 w
theorem Res1.nw {w : World} {b : Int} {l : List Nat} {t : TypeId} (Hc : Below W0.heap.size W0 w) (u : U64s w Z A c l) : Res1 W0 (w.alloc (.cells #[.int .i64 b, .bool s, .slice A l.length c] t)) w.heap.size b s l A c :=
 ⟨Box3.new _ _ _ _ _, NoU.new _ _ _ _ _ _ _, (u.mono (le_old _)).below bal_, Hc.size, from_ Hc bal_⟩
theorem NoU.of3 {w : World} {n : Nat} (h : NoU w g) (hb : Bx3 w g) : NoU (((w.setCell ⟨g, 0, none⟩ (.int .i64 x)).setCell ⟨g, 1, none⟩ (.bool s)).setCell ⟨g, 2, none⟩ (.slice A n c)) g := fun o m e => by
 have B := hb.box.set3 (.int .i64 x) (.bool s) (.slice A n c)
 by_cases h0 : o = 0
 · subst h0; rw [B.c0] at e; cases e
 · by_cases h1 : o = 1
   · subst h1; rw [B.c1] at e; cases e
   · by_cases h2 : o = 2
     · subst h2; rw [B.c2] at e; cases e
     · rw [World.cell?_setCell_other _ _ _ _ (fun h => h2 (by injection h with _ h; exact h.symm)), World.cell?_setCell_other _ _ _ _ (fun h => h1 (by injection h with _ h; exact h.symm)), World.cell?_setCell_other _ _ _ _ (fun h => h0 (by injection h with _ h; exact h.symm))] at e
       exact h o m e
theorem Res1.ol {w : World} {b : Int} {l : List Nat} (Hc : Below W0.heap.size W0 w) (H : Bx3 w g) (hg : W0.heap.size ≤ g) (u : U64s w Z A c l) : Res1 W0 (((w.setCell ⟨g, 0, none⟩ (.int .i64 b)).setCell ⟨g, 1, none⟩ (.bool s)).setCell ⟨g, 2, none⟩ (.slice A l.length c)) g b s l A c :=
 ⟨H.box.set3 _ _ _, H.no.of3 H, u.set3n H.no _ _ _, hg, set3_below Hc hg _ _ _⟩
structure Res2 (W0 w : World) (g h : Nat) (b : Int) (s : Bool) (l : List Nat) (A : Option Addr) (c : Nat) (d : Int) (t : Bool) (k : List Nat) (B : Option Addr) (f : Nat) : Prop where
 bx : Box3 w g (.int .i64 b) (.bool s) (.slice A l.length c)
 by_ : Box3 w h (.int .i64 d) (.bool t) (.slice B k.length f)
 nx : NoU w g
 ny : NoU w h
 u : U64s w old A c l
 v : U64s w old B f k
 lx : W0.heap.size ≤ g
 ly : W0.heap.size ≤ h
 ne : g ≠ h
 bel : Below W0.heap.size W0 w
section
variable {W0 w : World} {g h : Nat} {b : Int} {s : Bool} {l : List Nat} {A : Option Addr} {c : Nat} {d : Int} {t : Bool} {k : List Nat} {B : Option Addr} {f : Nat} {Z Y : Zone} {T : TypeId}
theorem Res2.nn (Hc : Below W0.heap.size W0 w) (u : U64s w Z A c l) (v : U64s w Y B f k) : Res2 W0 ((w.alloc (.cells #[.int .i64 b, .bool s, .slice A l.length c] T)).alloc (.cells #[.int .i64 d, .bool t, .slice B k.length f] T)) w.heap.size (w.heap.size + 1) b s l A c d t k B f := by
 have r := Res1.nw (t := T) (b := b) (s := s) Hc u
 have C := Res1.nw (t := T) (b := d) (s := t) r.bel (v.below ((Below.refl _ _).alloc (Nat.le_refl _) (.cells #[.int .i64 b, .bool s, .slice A l.length c] T)))
 rw [World.size_alloc] at C
 have D := (Below.refl (w.alloc (.cells #[.int .i64 b, .bool s, .slice A l.length c] T)).heap.size (w.alloc (.cells #[.int .i64 b, .bool s, .slice A l.length c] T))).alloc (Nat.le_refl _) (.cells #[.int .i64 d, .bool t, .slice B k.length f] T)
 exact ⟨r.box.below D, C.box, r.no.below r.box.lt D, C.no, r.u.below D, C.u, r.lo, C.lo, by omega, C.bel⟩
theorem Res2.nm (Hc : Below W0.heap.size W0 w) (u : U64s w Z A c l) (v : U64s w Y B f k) : Res2 W0 ((w.alloc (.cells #[.int .i64 d, .bool t, .slice B k.length f] T)).alloc (.cells #[.int .i64 b, .bool s, .slice A l.length c] T)) (w.heap.size + 1) w.heap.size b s l A c d t k B f := by
 have r := Res2.nn (T := T) (b := d) (s := t) (d := b) (t := s) Hc v u
 exact ⟨r.by_, r.bx, r.ny, r.nx, r.v, r.u, r.ly, r.lx, r.ne.symm, r.bel⟩
theorem Res2.on (Hc : Below W0.heap.size W0 w) (H : Bx3 w g) (hg : W0.heap.size ≤ g) (u : U64s w Z A c l) (v : U64s w Y B f k) : Res2 W0 ((((w.setCell ⟨g, 0, none⟩ (.int .i64 b)).setCell ⟨g, 1, none⟩ (.bool s)).setCell ⟨g, 2, none⟩ (.slice A l.length c)).alloc (.cells #[.int .i64 d, .bool t, .slice B k.length f] T)) g w.heap.size b s l A c d t k B f := by
 have r := Res1.ol (b := b) (s := s) Hc H hg u
 have E := v.set3n H.no (.int .i64 b) (.bool s) (.slice A l.length c)
 have C := Res1.nw (t := T) (b := d) (s := t) r.bel E
 have F : (((w.setCell ⟨g, 0, none⟩ (.int .i64 b)).setCell ⟨g, 1, none⟩ (.bool s)).setCell ⟨g, 2, none⟩ (.slice A l.length c)).heap.size = w.heap.size := by simp
 rw [F] at C
 have D := (Below.refl _ (((w.setCell ⟨g, 0, none⟩ (.int .i64 b)).setCell ⟨g, 1, none⟩ (.bool s)).setCell ⟨g, 2, none⟩ (.slice A l.length c))).alloc (Nat.le_refl _) (.cells #[.int .i64 d, .bool t, .slice B k.length f] T)
 have G := H.box.lt
 exact ⟨r.box.below D, C.box, r.no.below r.box.lt D, C.no, r.u.below D, C.u, r.lo, C.lo, by omega, C.bel⟩
theorem Res2.no (Hc : Below W0.heap.size W0 w) (H : Bx3 w h) (hg : W0.heap.size ≤ h) (u : U64s w Z A c l) (v : U64s w Y B f k) : Res2 W0 ((((w.setCell ⟨h, 0, none⟩ (.int .i64 d)).setCell ⟨h, 1, none⟩ (.bool t)).setCell ⟨h, 2, none⟩ (.slice B k.length f)).alloc (.cells #[.int .i64 b, .bool s, .slice A l.length c] T)) w.heap.size h b s l A c d t k B f := by
 have r := Res2.on (T := T) (b := d) (s := t) (d := b) (t := s) Hc H hg v u
 exact ⟨r.by_, r.bx, r.ny, r.nx, r.v, r.u, r.ly, r.lx, r.ne.symm, r.bel⟩
theorem Res2.oo (Hc : Below W0.heap.size W0 w) (H : Bx3 w g) (H2 : Bx3 w h) (hg : W0.heap.size ≤ g) (hh : W0.heap.size ≤ h) (hn : g ≠ h) (u : U64s w Z A c l) (v : U64s w Y B f k) :
  Res2 W0 ((((((w.setCell ⟨g, 0, none⟩ (.int .i64 b)).setCell ⟨g, 1, none⟩ (.bool s)).setCell ⟨g, 2, none⟩ (.slice A l.length c)).setCell ⟨h, 0, none⟩ (.int .i64 d)).setCell ⟨h, 1, none⟩ (.bool t)).setCell ⟨h, 2, none⟩ (.slice B k.length f)) g h b s l A c d t k B f := by
 have r := Res1.ol (b := b) (s := s) Hc H hg u
 have D : Bx3 (((w.setCell ⟨g, 0, none⟩ (.int .i64 b)).setCell ⟨g, 1, none⟩ (.bool s)).setCell ⟨g, 2, none⟩ (.slice A l.length c)) h := ⟨H2.box.oth3 g hn _ _ _, H2.no.set3 hn _ _ _⟩
 have E := v.set3n H.no (.int .i64 b) (.bool s) (.slice A l.length c)
 have C := Res1.ol (b := d) (s := t) r.bel D hh E
 exact ⟨r.box.oth3 h (Ne.symm hn) _ _ _, C.box, r.no.set3 (Ne.symm hn) _ _ _, C.no, r.u.set3n D.no _ _ _, C.u, hg, hh, hn, C.bel⟩
end
theorem ipower_w {w : World} {n : Nat} {l : List Nat} (h : Nm (n : Int) s l) (hn : n ≤ 63) (h2 : Nm ((2 ^ n : Nat) : Int) rs rl) (u : U64s w Z A c l) :
  Calls Tryz.prog 220 #[.agg #[.bool false, .bool s, .slice A l.length c]] w fun e w' => ∃ Av cv, e = .returned (.agg #[.bool false, .bool rs, .slice Av rl.length cv]) ∧ U64s w' (new w.heap.size) Av cv rl ∧ Below w.heap.size w w' := by
 obtain ⟨q, S, K⟩ := boxQ w (.bool false) (.bool s) (.slice A l.length c) (.bool false) (.bool false) (.slice none 0 0) 37 37
 have X : rs = false := by rw [h2.1]; exact decide_eq_false (Int.not_lt.2 (Int.natCast_nonneg _))
 have F : rl = limbs (2 ^ n) := by rw [h2.2]; rfl
 have a : rl.length ≤ 1 := by
  rw [F]
  refine len_limbs_le ?_
  have h1 : 2 ^ n ≤ 2 ^ 63 := Nat.pow_le_pow_right (by omega) hn
  have h3 : (2 : Nat) ^ 63 < 18446744073709551616 ^ 1 := by decide
  omega
 have M := hid (wint_z (h.isZ (u.below K)) (by omega))
 have N : (limbs 2).length ≤ 100000000000 := Nat.le_trans (len_limbs_le (k := 1) (by decide)) (by omega)
 have O : n * size 2 ≤ 65536 := by
  have : size 2 = 2 := by decide +kernel
  rw [this]; omega
 obtain ⟨T, r⟩ := hid2 (fun (W : World) (g : Nat) (B : W.cell? ⟨g, 0, none⟩ = some (.int .u64 2)) => pow_good (w := W) (m := 2) (n := n) (isN_one (w := W) (g := g) (by omega) (by omega) B) N (by omega) O) (fun (W : World) (Y : Zone) (D : Option Addr) (d : Nat) (v : U64s W Y D d rl) => iat_p (s := false) v (by omega))
 subst X
 obtain ⟨U, C, G⟩ := hid3 F K S
 obtain ⟨x, y, z, _, _, _, _⟩ := q
 clear u h h2 F a N O K S
 go_enter Tryz.func220, Tryz.ntmps220
 go_wp2_with fail
 refine M.out.mono ?_
 rintro e J ⟨rfl, B⟩
 replace G := hid (G.out.below B)
 replace C := hid (from_ C.out B)
 have P := (Below.refl J.heap.size J).alloc (Nat.le_refl _) (.cells #[.int .u64 2] 143)
 have Q : (J.alloc (.cells #[.int .u64 2] 143)).cell? ⟨J.heap.size, 0, none⟩ = some (.int .u64 2) := cell_newest rfl rfl
 obtain ⟨V, L⟩ := hid2 (T.out _ _ Q) P
 clear B x y z T P Q
 go_wp2_with fail
 refine V.out.mono ?_
 rintro e w2 ⟨v, rfl, ⟨D, d, rfl, H⟩, B⟩
 have F := U.out
 rw [← F] at H ⊢
 replace G := hid ((G.out.below L.out).below B)
 replace C := hid (from_ (from_ C.out L.out) B)
 have b := hid H
 clear B H F V L M U
 go_wp2_with fail
 refine (r.out _ _ _ _ b.out).mono ?_
 rintro e w3 ⟨E, e', rfl, H, B⟩
 have R := G.out.below B
 have i := G.out.lt
 have j := C.out
 have I := hid (R.put (w := w) (from_ C.out B) (show w.heap.size ≤ w.heap.size + 1 by omega) (.bool false) (.bool false) (.slice E rl.length e'))
 have o := hid ((I.out.keep (fun (h : w2.heap.size ≤ w.heap.size + 1) => by omega) H).mono (new_le C.out.size))
 obtain ⟨q0, q1, q2, f0, f1, f2, _⟩ := R
 clear B H i j
 go_wp2
 refine bodyPost_ret (res_bound rfl _ (w.heap.size + 1) rfl I.out.c0 I.out.c1 I.out.c2) rfl ?_
 exact ⟨_, _, rfl, o.out, I.out.bel⟩
end Go.Proofs.YtdncgncijbnjpaaGreat
