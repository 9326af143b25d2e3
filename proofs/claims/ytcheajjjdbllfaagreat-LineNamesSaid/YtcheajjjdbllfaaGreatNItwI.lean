/- Linear forms: what they may be, plain. No conditions. -/
import Derived.Deep.DeepCutAuto
import Derived.Deep.RegionHeld3
import Derived.Test.YtcheajjjdbllfaaGreatNWhV
import Derived.Test.YtcheajjjdbllfaaGreatNWhM
import Derived.Test.YtcheajjjdbllfaaGreatNWhJ
import Derived.Test.YtcheajjjdbllfaaGreatNWhU
set_option linter.unusedVariables false
set_option linter.unusedSimpArgs false
set_option maxRecDepth 100000
set_option maxHeartbeats 40000000
namespace Go.Proofs.YtcheajjjdbllfaaGreat
open Go.Lib (hid)
open Go.RowKit
variable {A B C D rA : Option Addr} {M N a b c d g h i j rc : Nat} {V W W' W0 w : World} {Y Z Z1 Z2 Z3 Z4 : Zone} {a0 a1 a2 a3 a4 a5 b0 b1 b2 b3 b4 b5 f x0 x1 x2 x3 x4 x5 y0 y1 y2 : Value} {e rb x y z z0 z1 : Int} {k0 k1 l' l0 l1 m rl rl0 rl1 : List Nat} {m0 m1 n' n0 n1 r rn0 rn1 rs rs0 rs1 s s' s0 s1 t t0 t1 : Bool} {o : Obj} {q : Iv} {ty : TypeId}
def EndL (z : Int) (n s : Bool) (l : List Nat) : Prop := n = nLo z ∧ s = sE z ∧ l = lE z
def EndH (z : Int) (n s : Bool) (l : List Nat) : Prop := n = nHi z ∧ s = sE z ∧ l = lE z
theorem EndL.same {n : Bool} {l : List Nat} (h : EndL z n s l) (h' : EndL x n' s' l') (e : z = x) : n' = n ∧ s' = s ∧ l' = l := by
 subst e
 obtain ⟨rfl, rfl, rfl⟩ := h
 obtain ⟨rfl, rfl, rfl⟩ := h'
 exact ⟨rfl, rfl, rfl⟩
theorem EndH.same {n : Bool} {l : List Nat} (h : EndH z n s l) (h' : EndH x n' s' l') (e : z = x) : n' = n ∧ s' = s ∧ l' = l := by
 subst e
 obtain ⟨rfl, rfl, rfl⟩ := h
 obtain ⟨rfl, rfl, rfl⟩ := h'
 exact ⟨rfl, rfl, rfl⟩
theorem Box6.hi3 {a b c d e : Value} (h : Box6 W g a b c d e f) (x y z : Value) : Box6 (((W.setCell ⟨g, 3, none⟩ x).setCell ⟨g, 4, none⟩ y).setCell ⟨g, 5, none⟩ z) g a b c x y z :=
 BoxL.six ((((BoxL.of6 h).set 3 x rfl).set 4 y rfl).set 5 z rfl)
theorem Box6.oth3 {a b c d e : Value} (h : Box6 W g a b c d e f) (g' i j k : Nat) (hn : g' ≠ g) (x y z : Value) : Box6 (((W.setCell ⟨g', i, none⟩ x).setCell ⟨g', j, none⟩ y).setCell ⟨g', k, none⟩ z) g a b c d e f :=
 BoxL.six ((((BoxL.of6 h).other g' i hn x).other g' j hn y).other g' k hn z)
theorem Below.set3 (h : Below w.heap.size w W) (g i j k : Nat) (hg : w.heap.size ≤ g) (x y z : Value) : Below w.heap.size w (((W.setCell ⟨g, i, none⟩ x).setCell ⟨g, j, none⟩ y).setCell ⟨g, k, none⟩ z) :=
 ((h.setCell (p := ⟨g, i, none⟩) hg _).setCell (p := ⟨g, j, none⟩) hg _).setCell (p := ⟨g, k, none⟩) hg _
theorem okA_le (h : okA n0 s0 l0 n1 s1 l1 = true) (m0 : Small l0) (m1 : Small l1) (q0 : l0.length ≤ 60) (q1 : l1.length ≤ 60) : loV n0 s0 l0 ≤ hiV n1 s1 l1 := by
 have i0 := lo_range (n := n0) (s := s0) m0 q0
 have i1 := hi_range (n := n1) (s := s1) m1 q1
 unfold okA at h
 simp only [Bool.and_eq_true, Bool.or_eq_true, decide_eq_true_eq] at h
 obtain ⟨_, _, h⟩ := h
 rcases h with rfl | rfl | h
 · show -bigZ ≤ _; omega
 · show _ ≤ bigZ; omega
 · cases n0
   · cases n1
     · exact h
     · show _ ≤ bigZ; omega
   · show -bigZ ≤ _; omega
theorem given4 {p q r s : Pq} (h1 : Pl p.x p.b p.s p.l) (h2 : Pl q.x q.b q.s q.l) (h3 : Pl r.x r.b r.s r.l) (h4 : Pl s.x s.b s.s s.l) (u1 : U64s W Z1 A a p.l) (u2 : U64s W Z2 B b q.l) (u3 : U64s W Z3 C c r.l) (u4 : U64s W Z4 D d s.l) (q1 : p.l.length ≤ 9000) (q2 : q.l.length ≤ 9000) (q3 : r.l.length ≤ 9000) (q4 : s.l.length ≤ 9000) :
  GivenP (W.alloc (.cells #[.int .i64 p.b, .bool p.s, .slice A p.l.length a, .int .i64 q.b, .bool q.s, .slice B q.l.length b, .int .i64 r.b, .bool r.s, .slice C r.l.length c, .int .i64 s.b, .bool s.s, .slice D s.l.length d] ty)) W.heap.size [p, q, r, s] := fun j hj => by
 have hb0 : Below W.heap.size W (W.alloc (.cells #[.int .i64 p.b, .bool p.s, .slice A p.l.length a, .int .i64 q.b, .bool q.s, .slice B q.l.length b, .int .i64 r.b, .bool r.s, .slice C r.l.length c, .int .i64 s.b, .bool s.s, .slice D s.l.length d] ty)) := (Below.refl _ W).alloc (Nat.le_refl _) _
 match j, hj with
 | 0, _ => exact ⟨A, a, cell_newest rfl rfl, cell_newest rfl rfl, cell_newest rfl rfl, h1, (u1.below hb0).mono (le_old _), q1⟩
 | 1, _ => exact ⟨B, b, cell_newest rfl rfl, cell_newest rfl rfl, cell_newest rfl rfl, h2, (u2.below hb0).mono (le_old _), q2⟩
 | 2, _ => exact ⟨C, c, cell_newest rfl rfl, cell_newest rfl rfl, cell_newest rfl rfl, h3, (u3.below hb0).mono (le_old _), q3⟩
 | 3, _ => exact ⟨D, d, cell_newest rfl rfl, cell_newest rfl rfl, cell_newest rfl rfl, h4, (u4.below hb0).mono (le_old _), q4⟩
theorem min4 {a b c d m : Int} (h : m = lo4 a b c d) : (∀ x ∈ [a, b, c, d], m ≤ x) ∧ m ∈ [a, b, c, d] := by
 subst h
 unfold lo4
 constructor
 · intro x hx
   simp only [List.mem_cons, List.not_mem_nil, or_false] at hx
   rcases hx with rfl | rfl | rfl | rfl <;> omega
 · simp only [List.mem_cons, List.not_mem_nil, or_false]
   omega
theorem max4 {a b c d m : Int} (h : m = hi4 a b c d) : (∀ x ∈ [a, b, c, d], x ≤ m) ∧ m ∈ [a, b, c, d] := by
 subst h
 unfold hi4
 constructor
 · intro x hx
   simp only [List.mem_cons, List.not_mem_nil, or_false] at hx
   rcases hx with rfl | rfl | rfl | rfl <;> omega
 · simp only [List.mem_cons, List.not_mem_nil, or_false]
   omega
theorem ends_of {ps : List Pq} {m : Int} (h : (∀ x ∈ ps.map Pq.x, m ≤ x) ∧ m ∈ ps.map Pq.x) : (∀ j (hj : j < ps.length), m ≤ ps[j].x) ∧ ∃ j, ∃ (hj : j < ps.length), ps[j].x = m := by
 refine ⟨fun j hj => h.1 _ (List.mem_map.2 ⟨_, List.getElem_mem hj, rfl⟩), ?_⟩
 obtain ⟨p, hp, e⟩ := List.mem_map.1 h.2
 obtain ⟨j, hj, rfl⟩ := List.getElem_of_mem hp
 exact ⟨j, hj, e⟩
theorem ends_of' {ps : List Pq} {m : Int} (h : (∀ x ∈ ps.map Pq.x, x ≤ m) ∧ m ∈ ps.map Pq.x) : (∀ j (hj : j < ps.length), ps[j].x ≤ m) ∧ ∃ j, ∃ (hj : j < ps.length), ps[j].x = m := by
 refine ⟨fun j hj => h.1 _ (List.mem_map.2 ⟨_, List.getElem_mem hj, rfl⟩), ?_⟩
 obtain ⟨p, hp, e⟩ := List.mem_map.1 h.2
 obtain ⟨j, hj, rfl⟩ := List.getElem_of_mem hp
 exact ⟨j, hj, e⟩
theorem icorners4 {p q r s : Pq} (h1 : Pl p.x p.b p.s p.l) (h2 : Pl q.x q.b q.s q.l) (h3 : Pl r.x r.b r.s r.l) (h4 : Pl s.x s.b s.s s.l) (u1 : U64s W Z1 A a p.l) (u2 : U64s W Z2 B b q.l) (u3 : U64s W Z3 C c r.l) (u4 : U64s W Z4 D d s.l) (q1 : p.l.length ≤ 9000) (q2 : q.l.length ≤ 9000) (q3 : r.l.length ≤ 9000) (q4 : s.l.length ≤ 9000)
  {m M : Int} (hm : m = lo4 p.x q.x r.x s.x) (hM : M = hi4 p.x q.x r.x s.x) (gm : m < bigZ) (gM : -bigZ < M) (e0 : EndL m n0 s0 l0) (e1 : EndH M n1 s1 l1) :
  Calls Tryz.prog 100 #[.slice (some ⟨W.heap.size, 0, none⟩) 4 4] (W.alloc (.cells #[.int .i64 p.b, .bool p.s, .slice A p.l.length a, .int .i64 q.b, .bool q.s, .slice B q.l.length b, .int .i64 r.b, .bool r.s, .slice C r.l.length c, .int .i64 s.b, .bool s.s, .slice D s.l.length d] ty)) fun e w' => ∃ A1 c1 A2 c2, e = .returned (.agg #[.bool n0, .bool s0, .slice A1 l0.length c1, .bool n1, .bool s1, .slice A2 l1.length c2]) ∧ U64s w' (new W.heap.size) A1 c1 l0 ∧ U64s w' (new W.heap.size) A2 c2 l1 ∧ Below W.heap.size W w' := by
 have x1 := ends_of (ps := [p, q, r, s]) (min4 hm)
 have x2 := ends_of' (ps := [p, q, r, s]) (max4 hM)
 have hb0 : Below W.heap.size W (W.alloc (.cells #[.int .i64 p.b, .bool p.s, .slice A p.l.length a, .int .i64 q.b, .bool q.s, .slice B q.l.length b, .int .i64 r.b, .bool r.s, .slice C r.l.length c, .int .i64 s.b, .bool s.s, .slice D s.l.length d] ty)) := (Below.refl _ W).alloc (Nat.le_refl _) _
 refine (icorners_p (n := 4) (c := 4) (given4 h1 h2 h3 h4 u1 u2 u3 u4 q1 q2 q3 q4) rfl (by simp) x1.1 x1.2 x2.1 x2.2 gm gM e0 e1).mono ?_
 rintro e w' ⟨A1, c1, A2, c2, rfl, v1, v2, hb⟩
 exact ⟨A1, c1, A2, c2, rfl, v1.mono (new_le hb0.size), v2.mono (new_le hb0.size), from_ hb0 hb⟩
theorem boxX (w : World) (a0 a1 a2 a3 a4 a5 b0 b1 b2 b3 b4 b5 r0 r1 r2 r3 r4 r5 : Value) (t : TypeId) :
  Box6 (((w.alloc (.cells #[a0, a1, a2, a3, a4, a5] t)).alloc (.cells #[b0, b1, b2, b3, b4, b5] t)).alloc (.cells #[r0, r1, r2, r3, r4, r5] t)) w.heap.size a0 a1 a2 a3 a4 a5 ∧
  Box6 (((w.alloc (.cells #[a0, a1, a2, a3, a4, a5] t)).alloc (.cells #[b0, b1, b2, b3, b4, b5] t)).alloc (.cells #[r0, r1, r2, r3, r4, r5] t)) (w.heap.size + 1) b0 b1 b2 b3 b4 b5 ∧
  Box6 (((w.alloc (.cells #[a0, a1, a2, a3, a4, a5] t)).alloc (.cells #[b0, b1, b2, b3, b4, b5] t)).alloc (.cells #[r0, r1, r2, r3, r4, r5] t)) (w.heap.size + 2) r0 r1 r2 r3 r4 r5 ∧
  Below w.heap.size w (((w.alloc (.cells #[a0, a1, a2, a3, a4, a5] t)).alloc (.cells #[b0, b1, b2, b3, b4, b5] t)).alloc (.cells #[r0, r1, r2, r3, r4, r5] t)) := by
 obtain ⟨h1, h2, hb⟩ := boxT w a0 a1 a2 a3 a4 a5 b0 b1 b2 b3 b4 b5 t
 have h3 := Box6.new ((w.alloc (.cells #[a0, a1, a2, a3, a4, a5] t)).alloc (.cells #[b0, b1, b2, b3, b4, b5] t)) r0 r1 r2 r3 r4 r5 t
 rw [show ((w.alloc (.cells #[a0, a1, a2, a3, a4, a5] t)).alloc (.cells #[b0, b1, b2, b3, b4, b5] t)).heap.size = w.heap.size + 2 by simp] at h3
 exact ⟨h1.alloc _, h2.alloc _, h3, hb.alloc (by simp; omega) _⟩
theorem boxT_st6 {r : Nat} {x0 x1 x2 x3 x4 x5 : Value} (hg : r ≠ g) (hh : r ≠ h)
  (hs : D6 W g a0 a1 a2 a3 a4 a5 (C6 W h b0 b1 b2 b3 b4 b5)) :
  let V := ((((((W.setCell ⟨r, 0, none⟩ x0).setCell ⟨r, 1, none⟩ x1).setCell ⟨r, 2, none⟩ x2).setCell ⟨r, 3, none⟩ x3).setCell ⟨r, 4, none⟩ x4).setCell ⟨r, 5, none⟩ x5)
  D6 V g a0 a1 a2 a3 a4 a5 (C6 V h b0 b1 b2 b3 b4 b5) := by
 obtain ⟨h0, h1, h2, h3, h4, h5, h6, h7, h8, h9, h10, h11⟩ := hs
 exact ⟨st6 h0 hg, st6 h1 hg, st6 h2 hg, st6 h3 hg, st6 h4 hg, st6 h5 hg, st6 h6 hh, st6 h7 hh, st6 h8 hh, st6 h9 hh, st6 h10 hh, st6 h11 hh⟩
theorem ijoin_p 
  (u1 : U64s w Z1 A a l0) (u2 : U64s w Z2 B b l1) (u3 : U64s w Z3 C c k0) (u4 : U64s w Z4 D d k1) (h1 : okA n0 s0 l0 n1 s1 l1 = true) (h2 : okA m0 t0 k0 m1 t1 k1 = true)
  (q1 : l0.length ≤ 60) (q2 : l1.length ≤ 60) (q3 : k0.length ≤ 60) (q4 : k1.length ≤ 60)
  (hz0 : z0 = min (loV n0 s0 l0) (loV m0 t0 k0)) (hz1 : z1 = max (hiV n1 s1 l1) (hiV m1 t1 k1)) (e0 : EndL z0 rn0 rs0 rl0) (e1 : EndH z1 rn1 rs1 rl1) :
  Calls Tryz.prog 93 #[.agg #[.bool n0, .bool s0, .slice A l0.length a, .bool n1, .bool s1, .slice B l1.length b], .agg #[.bool m0, .bool t0, .slice C k0.length c, .bool m1, .bool t1, .slice D k1.length d]] w fun e w' => ∃ rA ra rB rb, e = .returned (.agg #[.bool rn0, .bool rs0, .slice rA rl0.length ra, .bool rn1, .bool rs1, .slice rB rl1.length rb]) ∧ U64s w' (new w.heap.size) rA ra rl0 ∧ U64s w' (new w.heap.size) rB rb rl1 ∧ Below w.heap.size w w' := by
 obtain ⟨bA, bB, bR, hB0⟩ := boxX w (.bool n0) (.bool s0) (.slice A l0.length a) (.bool n1) (.bool s1) (.slice B l1.length b) (.bool m0) (.bool t0) (.slice C k0.length c) (.bool m1) (.bool t1) (.slice D k1.length d) (.bool false) (.bool false) (.slice none 0 0) (.bool false) (.bool false) (.slice none 0 0) 29
 obtain ⟨ea1, ea2⟩ := okA_ends h1
 obtain ⟨eb1, eb2⟩ := okA_ends h2
 obtain ⟨x1, xs1, xl1, xA1, xc1, P1⟩ := Plc.ex (-1) n0 s0 l0 A a
 obtain ⟨x2, xs2, xl2, xA2, xc2, P2⟩ := Plc.ex 1 n1 s1 l1 B b
 obtain ⟨x3, xs3, xl3, xA3, xc3, P3⟩ := Plc.ex (-1) m0 t0 k0 C c
 obtain ⟨x4, xs4, xl4, xA4, xc4, P4⟩ := Plc.ex 1 m1 t1 k1 D d
 have p1 := P1.lo ea1 u1.small q1
 have p2 := P2.hi ea2 u2.small q2
 have p3 := P3.lo eb1 u3.small q3
 have p4 := P4.hi eb2 u4.small q4
 have r1 := P1.len
 have r2 := P2.len
 have r3 := P3.len
 have r4 := P4.len
 have v1 := P1.u64s u1
 have v2 := P2.u64s u2
 have v3 := P3.u64s u3
 have v4 := P4.u64s u4
 have i1 := lo_range (n := n0) (s := s0) u1.small q1
 have i2 := hi_range (n := n1) (s := s1) u2.small q2
 have i3 := lo_range (n := m0) (s := t0) u3.small q3
 have i4 := hi_range (n := m1) (s := t1) u4.small q4
 obtain ⟨L1, L2, L3, L4⟩ := hid4 (fun (W : World) => ilow_p (w := W) (v3 := .bool n1) (v4 := .bool s1) (v5 := .slice B l1.length b) P1) (fun (W : World) => ihigh_p (w := W) (v3 := .bool n0) (v4 := .bool s0) (v5 := .slice A l0.length a) P2) (fun (W : World) => ilow_p (w := W) (v3 := .bool m1) (v4 := .bool t1) (v5 := .slice D k1.length d) P3) (fun (W : World) => ihigh_p (w := W) (v3 := .bool m0) (v4 := .bool t0) (v5 := .slice C k0.length c) P4)
 have w1 := okA_le h1 u1.small u2.small q1 q2
 have w2 := okA_le h2 u3.small u4.small q3 q4
 generalize loV n0 s0 l0 = X1 at *
 generalize hiV n1 s1 l1 = X2 at *
 generalize loV m0 t0 k0 = X3 at *
 generalize hiV m1 t1 k1 = X4 at *
 have COR := hid (fun (W : World) (ty : TypeId) (h : Below w.heap.size w W) => icorners4 (W := W) (ty := ty) (p := ⟨_, x1, xs1, xl1⟩) (q := ⟨_, x2, xs2, xl2⟩) (r := ⟨_, x3, xs3, xl3⟩) (s := ⟨_, x4, xs4, xl4⟩) p1 p2 p3 p4 (v1.below h) (v2.below h) (v3.below h) (v4.below h) (by dsimp only; omega) (by dsimp only; omega) (by dsimp only; omega) (by dsimp only; omega) (m := z0) (M := z1) (by dsimp only [lo4]; omega) (by dsimp only [hi4]; omega) (by omega) (by omega) e0 e1)
 dsimp only at COR
 have hs := boxT_of bA bB
 replace hs := boxT_keep hs bdr_
 have Hc := hid hB0.drew
 have bR' : Box6 _ (w.heap.size + 1 + 1) _ _ _ _ _ _ := bR
 obtain ⟨HR, HL⟩ := hid2 (bR'.below bdr_) bR.lt
 clear w1 w2 bA bB bR bR' hB0 hz0 hz1 e0 e1
 clear u1 u2 u3 u4 ea1 ea2 eb1 eb2 P1 P2 P3 P4 p1 p2 p3 p4 r1 r2 r3 r4 v1 v2 v3 v4 i1 i2 i3 i4 q1 q2 q3 q4 h1 h2
 go_enter Tryz.func93, Tryz.ntmps93
 go_wp2
 generalize hgR : w.heap.size + 1 + 1 = gR at *
 have n1 : gR ≠ w.heap.size := by omega
 have n2 : gR ≠ w.heap.size + 1 := by omega
 have n3 : w.heap.size ≤ gR := by omega
 obtain ⟨N1, N2, N3⟩ := hid3 n1 n2 n3
 clear hgR n1 n2 n3
 go_region_held3 (fun w' => D6 w' w.heap.size (.bool n0) (.bool s0) (.slice A l0.length a) (.bool n1) (.bool s1) (.slice B l1.length b) (C6 w' (w.heap.size + 1) (.bool m0) (.bool t0) (.slice C k0.length c) (.bool m1) (.bool t1) (.slice D k1.length d)))
  (first
   | with_reducible exact hs
   | with_reducible exact boxT_st6 N1.out N2.out hs
   | exact boxT_keep hs bal_)
  (first
   | (go_at_call 58; (first | (with_reducible refine (L1.out _).mono ?_) | (with_reducible refine (L3.out _).mono ?_)); rintro e w2 ⟨rfl, hc2⟩; replace hs := boxT_keep hs hc2; replace HR := hid (HR.out.below hc2); replace Hc := hid (from_ Hc.out hc2))
   | (go_at_call 59; (first | (with_reducible refine (L2.out _).mono ?_) | (with_reducible refine (L4.out _).mono ?_)); rintro e w2 ⟨rfl, hc2⟩; replace hs := boxT_keep hs hc2; replace HR := hid (HR.out.below hc2); replace Hc := hid (from_ Hc.out hc2))
   | (go_at_call 100; with_reducible refine (COR.out _ _ Hc.out).mono ?_; rintro e w3 ⟨A1, c1, A2, c2, rfl, o1, o2, hc2⟩; replace hs := boxT_keep hs hc2; have zl := HR.out.lt; replace HR := hid (HR.out.below hc2); have Hp := Hc; replace Hc := hid (from_ Hc.out hc2); have g0 := HR.out.cf))
 all_goals
  obtain ⟨HP, U1, U2⟩ := hid3 (HR.out.put Hc.out N3.out (.bool rn0) (.bool rs0) (.slice A1 rl0.length c1) (.bool rn1) (.bool rs1) (.slice A2 rl1.length c2)) ((o1.set6 (g := gR) (fun (h : _ ≤ gR) => by omega) (.bool rn0) (.bool rs0) (.slice A1 rl0.length c1) (.bool rn1) (.bool rs1) (.slice A2 rl1.length c2)).mono (new_le Hp.out.size)) ((o2.set6 (g := gR) (fun (h : _ ≤ gR) => by omega) (.bool rn0) (.bool rs0) (.slice A1 rl0.length c1) (.bool rn1) (.bool rs1) (.slice A2 rl1.length c2)).mono (new_le Hp.out.size))
  clear o1 o2
  go_wp2
  refine bodyPost_ret (res_itv rfl _ gR rfl HP.out.box) rfl ?_
  exact ⟨_, _, _, _, rfl, U1.out, U2.out, HP.out.bel⟩
theorem iJoin_good 
  (u1 : U64s w Z1 A a l0) (u2 : U64s w Z2 B b l1) (u3 : U64s w Z3 C c k0) (u4 : U64s w Z4 D d k1) (h1 : okA n0 s0 l0 n1 s1 l1 = true) (h2 : okA m0 t0 k0 m1 t1 k1 = true)
  (q1 : l0.length ≤ 60) (q2 : l1.length ≤ 60) (q3 : k0.length ≤ 60) (q4 : k1.length ≤ 60)
  (hz0 : z0 = min (loV n0 s0 l0) (loV m0 t0 k0)) (hz1 : z1 = max (hiV n1 s1 l1) (hiV m1 t1 k1)) (e0 : EndL z0 rn0 rs0 rl0) (e1 : EndH z1 rn1 rs1 rl1) :
  Calls Tryz.prog 89 #[.agg #[.bool n0, .bool s0, .slice A l0.length a, .bool n1, .bool s1, .slice B l1.length b], .agg #[.bool m0, .bool t0, .slice C k0.length c, .bool m1, .bool t1, .slice D k1.length d]] w fun e w' => ∃ rA ra rB rb, e = .returned (.tuple #[.agg #[.bool rn0, .bool rs0, .slice rA rl0.length ra, .bool rn1, .bool rs1, .slice rB rl1.length rb], .int .i64 0]) ∧ U64s w' (new w.heap.size) rA ra rl0 ∧ U64s w' (new w.heap.size) rB rb rl1 ∧ Below w.heap.size w w' := by
 obtain ⟨bA, bB, bR, hB0⟩ := boxX w (.bool n0) (.bool s0) (.slice A l0.length a) (.bool n1) (.bool s1) (.slice B l1.length b) (.bool m0) (.bool t0) (.slice C k0.length c) (.bool m1) (.bool t1) (.slice D k1.length d) (.bool false) (.bool false) (.slice none 0 0) (.bool false) (.bool false) (.slice none 0 0) 29
 have hb1 := hB0.alloc hB0.size (.cells #[.bool n0, .bool s0, .slice A l0.length a, .bool n1, .bool s1, .slice B l1.length b, .bool m0, .bool t0, .slice C k0.length c, .bool m1, .bool t1, .slice D k1.length d] 29)
 have hg := given_twoA (p := ⟨n0, s0, l0, n1, s1, l1⟩) (q := ⟨m0, t0, k0, m1, t1, k1⟩) (ty := 29) (u1.below hB0) (u2.below hB0) (u3.below hB0) (u4.below hB0)
 rw [show (((w.alloc (.cells #[.bool n0, .bool s0, .slice A l0.length a, .bool n1, .bool s1, .slice B l1.length b] 29)).alloc (.cells #[.bool m0, .bool t0, .slice C k0.length c, .bool m1, .bool t1, .slice D k1.length d] 29)).alloc (.cells #[.bool false, .bool false, .slice none 0 0, .bool false, .bool false, .slice none 0 0] 29)).heap.size = w.heap.size + 3 by simp] at hg
 have hck := ichecked_any (n := 2) (c := 2) hg rfl (by simp) (by intro p hp; simp only [List.mem_cons, List.not_mem_nil, or_false] at hp; rcases hp with rfl | rfl <;> exact ⟨by dsimp only; omega, by dsimp only; omega⟩)
 rw [errAs_two, if_pos ⟨h1, h2⟩] at hck
 obtain ⟨HA, HBb, HR, Hck, Hb1⟩ := hid5 (bA.alloc (.cells #[.bool n0, .bool s0, .slice A l0.length a, .bool n1, .bool s1, .slice B l1.length b, .bool m0, .bool t0, .slice C k0.length c, .bool m1, .bool t1, .slice D k1.length d] 29)) (bB.alloc (.cells #[.bool n0, .bool s0, .slice A l0.length a, .bool n1, .bool s1, .slice B l1.length b, .bool m0, .bool t0, .slice C k0.length c, .bool m1, .bool t1, .slice D k1.length d] 29)) (bR.alloc (.cells #[.bool n0, .bool s0, .slice A l0.length a, .bool n1, .bool s1, .slice B l1.length b, .bool m0, .bool t0, .slice C k0.length c, .bool m1, .bool t1, .slice D k1.length d] 29)) hck hb1
 obtain ⟨a0, a1, a2, a3, a4, a5, _, _, _, _, _, _, _⟩ := bA
 obtain ⟨b0, b1, b2, b3, b4, b5, _, _, _, _, _, _, _⟩ := bB
 have J := hid (fun (W : World) (h : Below w.heap.size w W) => ijoin_p (u1.below h) (u2.below h) (u3.below h) (u4.below h) h1 h2 q1 q2 q3 q4 hz0 hz1 e0 e1)
 clear hck hb1 hg u1 u2 u3 u4 h1 h2 q1 q2 q3 q4 hz0 hz1 e0 e1 bR hB0
 go_enter Tryz.func89, Tryz.ntmps89
 go_wp2_with fail
 refine Hck.out.mono ?_
 rintro e w1 ⟨rfl, hc⟩
 obtain ⟨H1, R1⟩ := hid2 (from_ Hb1.out hc) (HR.out.below hc)
 clear a0 a1 a2 a3 a4 a5 b0 b1 b2 b3 b4 b5
 have a0 := (HA.out.below hc).all
 have b0 := (HBb.out.below hc).all
 clear hc
 go_wp2_with fail
 refine (J.out _ H1.out).mono ?_
 rintro e w2 ⟨A1, c1, A2, c2, rfl, o1, o2, hc⟩
 have z1 := R1.out.lt
 have R2 := R1.out.below hc
 obtain ⟨HP, U1, U2⟩ := hid3 (R2.put (from_ H1.out hc) (by omega) (.bool rn0) (.bool rs0) (.slice A1 rl0.length c1) (.bool rn1) (.bool rs1) (.slice A2 rl1.length c2)) ((o1.set6 (g := w.heap.size + 2) (fun (h : w1.heap.size ≤ w.heap.size + 2) => by omega) (.bool rn0) (.bool rs0) (.slice A1 rl0.length c1) (.bool rn1) (.bool rs1) (.slice A2 rl1.length c2)).mono (new_le H1.out.size)) ((o2.set6 (g := w.heap.size + 2) (fun (h : w1.heap.size ≤ w.heap.size + 2) => by omega) (.bool rn0) (.bool rs0) (.slice A1 rl0.length c1) (.bool rn1) (.bool rs1) (.slice A2 rl1.length c2)).mono (new_le H1.out.size))
 have g0 := R2.cf
 clear o1 o2 hc z1 a0 b0
 go_wp2
 refine bodyPost_ret (res_itv2 rfl _ (w.heap.size + 2) rfl HP.out.box) rfl ?_
 exact ⟨_, _, _, _, rfl, U1.out, U2.out, HP.out.bel⟩
theorem Pick.pl {p : Bool} {b : Int} {l : List Nat} {d : Int} {k : List Nat} {e : Nat} (h : Pick p b s l A c d t k B e rb rs rl rA rc) (h1 : Pl x b s l) (h2 : Pl y d t k) : Pl (bif p then x else y) rb rs rl := by
 rcases h with ⟨rfl, rfl, rfl, rfl, rfl, rfl⟩ | ⟨rfl, rfl, rfl, rfl, rfl, rfl⟩
 · exact h1
 · exact h2
theorem Pick.u64s {p : Bool} {b : Int} {l : List Nat} {d : Int} {k : List Nat} {e : Nat} (h : Pick p b s l A c d t k B e rb rs rl rA rc) (h1 : U64s w Z A c l) (h2 : U64s w Y B e k) : U64s w old rA rc rl := by
 rcases h with ⟨rfl, rfl, rfl, rfl, rfl, rfl⟩ | ⟨rfl, rfl, rfl, rfl, rfl, rfl⟩
 · exact h1.mono (le_old _)
 · exact h2.mono (le_old _)
theorem Pick.len {p : Bool} {b : Int} {l : List Nat} {d : Int} {k : List Nat} {e : Nat} (h : Pick p b s l A c d t k B e rb rs rl rA rc) (h1 : l.length ≤ N) (h2 : k.length ≤ N) : rl.length ≤ N := by
 rcases h with ⟨rfl, rfl, rfl, rfl, rfl, rfl⟩ | ⟨rfl, rfl, rfl, rfl, rfl, rfl⟩
 · exact h1
 · exact h2
theorem Box3.new2 (w : World) (o : Obj) (a b c : Value) (t : TypeId) : Box3 ((w.alloc o).alloc (.cells #[a, b, c] t)) (w.heap.size + 1) a b c := by
 have h := Box3.new (w.alloc o) a b c t
 rw [World.size_alloc] at h
 exact h
theorem boxT_st3 {r : Nat} (e : V = (((W.setCell ⟨r, 0, none⟩ x0).setCell ⟨r, 1, none⟩ x1).setCell ⟨r, 2, none⟩ x2)) (hg : r ≠ g) (hh : r ≠ h)
  (hs : D6 W g a0 a1 a2 a3 a4 a5 (C6 W h b0 b1 b2 b3 b4 b5)) :
  D6 V g a0 a1 a2 a3 a4 a5 (C6 V h b0 b1 b2 b3 b4 b5) := by
 subst e
 obtain ⟨h0, h1, h2, h3, h4, h5, h6, h7, h8, h9, h10, h11⟩ := hs
 exact ⟨st3 h0 hg, st3 h1 hg, st3 h2 hg, st3 h3 hg, st3 h4 hg, st3 h5 hg, st3 h6 hh, st3 h7 hh, st3 h8 hh, st3 h9 hh, st3 h10 hh, st3 h11 hh⟩
theorem boxT_dr (e : V = W.drew)
  (hs : D6 W g a0 a1 a2 a3 a4 a5 (C6 W h b0 b1 b2 b3 b4 b5)) :
  D6 V g a0 a1 a2 a3 a4 a5 (C6 V h b0 b1 b2 b3 b4 b5) := by
 subst e
 exact boxT_keep hs bdr_
theorem boxT_al (e : V = W.alloc o)
  (hs : D6 W g a0 a1 a2 a3 a4 a5 (C6 W h b0 b1 b2 b3 b4 b5)) :
  D6 V g a0 a1 a2 a3 a4 a5 (C6 V h b0 b1 b2 b3 b4 b5) := by
 subst e
 exact boxT_keep hs bal_
structure Two3 (W0 V : World) (gx gy : Nat) (x0 x1 x2 y0 y1 y2 : Value) : Prop where
 bx : Box3 V gx x0 x1 x2
 by_ : Box3 V gy y0 y1 y2
 lx : W0.heap.size ≤ gx
 ly : W0.heap.size ≤ gy
 bel : Below W0.heap.size W0 V
theorem Two3.nn {t : TypeId} (Hc : Below W0.heap.size W0 w) : Two3 W0 ((w.alloc (.cells #[x0, x1, x2] t)).alloc (.cells #[y0, y1, y2] t)) w.heap.size (w.heap.size + 1) x0 x1 x2 y0 y1 y2 :=
 ⟨(Box3.new w x0 x1 x2 t).below bal_, Box3.new2 w _ y0 y1 y2 t, Hc.size, Nat.le_succ_of_le Hc.size, from_ (from_ Hc bal_) bal_⟩
theorem Two3.nm {t : TypeId} (Hc : Below W0.heap.size W0 w) : Two3 W0 ((w.alloc (.cells #[y0, y1, y2] t)).alloc (.cells #[x0, x1, x2] t)) (w.heap.size + 1) w.heap.size x0 x1 x2 y0 y1 y2 :=
 ⟨Box3.new2 w _ x0 x1 x2 t, (Box3.new w y0 y1 y2 t).below bal_, Nat.le_succ_of_le Hc.size, Hc.size, from_ (from_ Hc bal_) bal_⟩
theorem set3_below (Hc : Below W0.heap.size W0 w) (hg : W0.heap.size ≤ g) (x0 x1 x2 : Value) : Below W0.heap.size W0 (((w.setCell ⟨g, 0, none⟩ x0).setCell ⟨g, 1, none⟩ x1).setCell ⟨g, 2, none⟩ x2) := Below.set3 Hc g 0 1 2 hg x0 x1 x2
theorem Two3.on {a b c : Value} {t : TypeId} (Hc : Below W0.heap.size W0 w) (H : Box3 w g a b c) (hg : W0.heap.size ≤ g) : Two3 W0 ((((w.setCell ⟨g, 0, none⟩ x0).setCell ⟨g, 1, none⟩ x1).setCell ⟨g, 2, none⟩ x2).alloc (.cells #[y0, y1, y2] t)) g w.heap.size x0 x1 x2 y0 y1 y2 := by
 have hz : (((w.setCell ⟨g, 0, none⟩ x0).setCell ⟨g, 1, none⟩ x1).setCell ⟨g, 2, none⟩ x2).heap.size = w.heap.size := by simp
 have h2 := Box3.new (((w.setCell ⟨g, 0, none⟩ x0).setCell ⟨g, 1, none⟩ x1).setCell ⟨g, 2, none⟩ x2) y0 y1 y2 t
 rw [hz] at h2
 exact ⟨(H.set3 x0 x1 x2).below bal_, h2, hg, Hc.size, from_ (set3_below Hc hg x0 x1 x2) bal_⟩
theorem Two3.no {a b c : Value} {t : TypeId} (Hc : Below W0.heap.size W0 w) (H : Box3 w g a b c) (hg : W0.heap.size ≤ g) : Two3 W0 ((((w.setCell ⟨g, 0, none⟩ y0).setCell ⟨g, 1, none⟩ y1).setCell ⟨g, 2, none⟩ y2).alloc (.cells #[x0, x1, x2] t)) w.heap.size g x0 x1 x2 y0 y1 y2 := by
 have h := Two3.on (x0 := y0) (x1 := y1) (x2 := y2) (y0 := x0) (y1 := x1) (y2 := x2) (t := t) Hc H hg
 exact ⟨h.by_, h.bx, h.ly, h.lx, h.bel⟩
theorem Two3.oo {a b c d e : Value} (Hc : Below W0.heap.size W0 w) (H : Box3 w g a b c) (H2 : Box3 w h d e f) (hg : W0.heap.size ≤ g) (hh : W0.heap.size ≤ h) (hn : g ≠ h) :
  Two3 W0 ((((((w.setCell ⟨g, 0, none⟩ x0).setCell ⟨g, 1, none⟩ x1).setCell ⟨g, 2, none⟩ x2).setCell ⟨h, 0, none⟩ y0).setCell ⟨h, 1, none⟩ y1).setCell ⟨h, 2, none⟩ y2) g h x0 x1 x2 y0 y1 y2 :=
 ⟨(H.set3 x0 x1 x2).oth3 h (Ne.symm hn) y0 y1 y2, (H2.oth3 g hn x0 x1 x2).set3 y0 y1 y2, hg, hh, set3_below (set3_below Hc hg x0 x1 x2) hh y0 y1 y2⟩
theorem two3_keep (hs : D3 W g a0 a1 a2 (C3 W h b0 b1 b2)) (hb : Below W.heap.size W V) : D3 V g a0 a1 a2 (C3 V h b0 b1 b2) :=
 ⟨keepC hb hs.1, keepC hb hs.2.1, keepC hb hs.2.2.1, keepC hb hs.2.2.2.1, keepC hb hs.2.2.2.2.1, keepC hb hs.2.2.2.2.2⟩
theorem two3_st6 {r : Nat} (e : V = ((((((W.setCell ⟨r, 0, none⟩ x0).setCell ⟨r, 1, none⟩ x1).setCell ⟨r, 2, none⟩ x2).setCell ⟨r, 3, none⟩ x3).setCell ⟨r, 4, none⟩ x4).setCell ⟨r, 5, none⟩ x5)) (hg : r ≠ g) (hh : r ≠ h) (hs : D3 W g a0 a1 a2 (C3 W h b0 b1 b2)) : D3 V g a0 a1 a2 (C3 V h b0 b1 b2) := by
 subst e
 exact ⟨st6 hs.1 hg, st6 hs.2.1 hg, st6 hs.2.2.1 hg, st6 hs.2.2.2.1 hh, st6 hs.2.2.2.2.1 hh, st6 hs.2.2.2.2.2 hh⟩
theorem imeet_p 
  (u1 : U64s w Z1 A a l0) (u2 : U64s w Z2 B b l1) (u3 : U64s w Z3 C c k0) (u4 : U64s w Z4 D d k1) (h1 : okA n0 s0 l0 n1 s1 l1 = true) (h2 : okA m0 t0 k0 m1 t1 k1 = true)
  (q1 : l0.length ≤ 60) (q2 : l1.length ≤ 60) (q3 : k0.length ≤ 60) (q4 : k1.length ≤ 60)
  (hz0 : z0 = max (loV n0 s0 l0) (loV m0 t0 k0)) (hz1 : z1 = min (hiV n1 s1 l1) (hiV m1 t1 k1)) (e0 : EndL z0 rn0 rs0 rl0) (e1 : EndH z1 rn1 rs1 rl1) {g : Bool} (hg : decide (z0 ≤ z1) = g) :
  Calls Tryz.prog 46 #[.agg #[.bool n0, .bool s0, .slice A l0.length a, .bool n1, .bool s1, .slice B l1.length b], .agg #[.bool m0, .bool t0, .slice C k0.length c, .bool m1, .bool t1, .slice D k1.length d]] w fun e w' => (g = true → ∃ rA ra rB rb, e = .returned (.tuple #[.agg #[.bool rn0, .bool rs0, .slice rA rl0.length ra, .bool rn1, .bool rs1, .slice rB rl1.length rb], .bool true]) ∧ U64s w' (new w.heap.size) rA ra rl0 ∧ U64s w' (new w.heap.size) rB rb rl1) ∧ (g = false → e = .returned (.tuple #[.agg #[.bool false, .bool false, .slice none 0 0, .bool false, .bool false, .slice none 0 0], .bool false])) ∧ Below w.heap.size w w' := by
 obtain ⟨bA, bB, bR, hB0⟩ := boxX w (.bool n0) (.bool s0) (.slice A l0.length a) (.bool n1) (.bool s1) (.slice B l1.length b) (.bool m0) (.bool t0) (.slice C k0.length c) (.bool m1) (.bool t1) (.slice D k1.length d) (.bool false) (.bool false) (.slice none 0 0) (.bool false) (.bool false) (.slice none 0 0) 29
 obtain ⟨ea1, ea2⟩ := okA_ends h1
 obtain ⟨eb1, eb2⟩ := okA_ends h2
 obtain ⟨x1, xs1, xl1, xA1, xc1, P1⟩ := Plc.ex (-1) n0 s0 l0 A a
 obtain ⟨x2, xs2, xl2, xA2, xc2, P2⟩ := Plc.ex 1 n1 s1 l1 B b
 obtain ⟨x3, xs3, xl3, xA3, xc3, P3⟩ := Plc.ex (-1) m0 t0 k0 C c
 obtain ⟨x4, xs4, xl4, xA4, xc4, P4⟩ := Plc.ex 1 m1 t1 k1 D d
 have p1 := P1.lo ea1 u1.small q1
 have p2 := P2.hi ea2 u2.small q2
 have p3 := P3.lo eb1 u3.small q3
 have p4 := P4.hi eb2 u4.small q4
 have r1 := P1.len
 have r2 := P2.len
 have r3 := P3.len
 have r4 := P4.len
 have v1 := P1.u64s u1
 have v2 := P2.u64s u2
 have v3 := P3.u64s u3
 have v4 := P4.u64s u4
 have i1 := lo_range (n := n0) (s := s0) u1.small q1
 have i2 := hi_range (n := n1) (s := s1) u2.small q2
 have i3 := lo_range (n := m0) (s := t0) u3.small q3
 have i4 := hi_range (n := m1) (s := t1) u4.small q4
 obtain ⟨L1, L2, L3, L4⟩ := hid4 (fun (W : World) => ilow_p (w := W) (v3 := .bool n1) (v4 := .bool s1) (v5 := .slice B l1.length b) P1) (fun (W : World) => ihigh_p (w := W) (v3 := .bool n0) (v4 := .bool s0) (v5 := .slice A l0.length a) P2) (fun (W : World) => ilow_p (w := W) (v3 := .bool m1) (v4 := .bool t1) (v5 := .slice D k1.length d) P3) (fun (W : World) => ihigh_p (w := W) (v3 := .bool m0) (v4 := .bool t0) (v5 := .slice C k0.length c) P4)
 generalize loV n0 s0 l0 = X1 at *
 generalize hiV n1 s1 l1 = X2 at *
 generalize loV m0 t0 k0 = X3 at *
 generalize hiV m1 t1 k1 = X4 at *
 obtain ⟨y1, ys1, yl1, yA1, yc1, K1⟩ := Pick.ex (decide (X3 ≤ X1)) x1 xs1 xl1 xA1 xc1 x3 xs3 xl3 xA3 xc3
 obtain ⟨y2, ys2, yl2, yA2, yc2, K2⟩ := Pick.ex (decide (X2 ≤ X4)) x2 xs2 xl2 xA2 xc2 x4 xs4 xl4 xA4 xc4
 have hs := boxT_of bA bB
 have hB1 := hB0
 have bR' : Box6 _ (w.heap.size + 1 + 1) _ _ _ _ _ _ := bR
 have HR := hid bR'
 generalize hW0 : (((w.alloc (.cells #[.bool n0, .bool s0, .slice A l0.length a, .bool n1, .bool s1, .slice B l1.length b] 29)).alloc (.cells #[.bool m0, .bool t0, .slice C k0.length c, .bool m1, .bool t1, .slice D k1.length d] 29)).alloc (.cells #[.bool false, .bool false, .slice none 0 0, .bool false, .bool false, .slice none 0 0] 29)) = W0 at *
 have hsz : w.heap.size + 3 ≤ W0.heap.size := by rw [← hW0]; simp
 replace v1 := v1.below hB1
 replace v2 := v2.below hB1
 replace v3 := v3.below hB1
 replace v4 := v4.below hB1
 obtain ⟨G1, G2⟩ := hid2 (fun (W : World) (h : Below W0.heap.size W0 W) => igreatest_p p1 p3 (v1.below h) (v3.below h) (by omega) (by omega) K1) (fun (W : World) (h : Below W0.heap.size W0 W) => ileast_p p2 p4 (v2.below h) (v4.below h) (by omega) (by omega) K2)
 have g1 := K1.pl p1 p3
 have g2 := K2.pl p2 p4
 rw [show (bif decide (X3 ≤ X1) then X1 else X3) = z0 by rw [hz0]; by_cases h : X3 ≤ X1 <;> simp [h] <;> omega] at g1
 rw [show (bif decide (X2 ≤ X4) then X2 else X4) = z1 by rw [hz1]; by_cases h : X2 ≤ X4 <;> simp [h] <;> omega] at g2
 have gu1 := K1.u64s v1 v3
 have gu2 := K2.u64s v2 v4
 have gl1 := K1.len (N := 60) (by omega) (by omega)
 have gl2 := K2.len (N := 60) (by omega) (by omega)
 obtain ⟨q, hq⟩ : ∃ q, cmpP y1 y2 z0 z1 = q := ⟨_, rfl⟩
 have hle := (cmpP_le g1 g2).1
 rw [hq] at hle
 have CM := hid (fun (W : World) (h : Below W0.heap.size W0 W) => icompare_p g1 g2 (gu1.below h) (gu2.below h) (by omega) (by omega) hq)
 obtain rfl : ys1 = rs0 := g1.uniq.2.1.trans e0.2.1.symm
 obtain rfl : yl1 = rl0 := g1.uniq.2.2.trans e0.2.2.symm
 obtain rfl : ys2 = rs1 := g2.uniq.2.1.trans e1.2.1.symm
 obtain rfl : yl2 = rl1 := g2.uniq.2.2.trans e1.2.2.symm
 obtain ⟨B1, B2⟩ := hid2 (fun (W : World) (h : Below W0.heap.size W0 W) => ibound_p g1 ((g1.nlo (by omega)).trans e0.1.symm) (gu1.below h) (by omega)) (fun (W : World) (h : Below W0.heap.size W0 W) => ibound_p g2 ((g2.nhi (by omega)).trans e1.1.symm) (gu2.below h) (by omega))
 have hd : decide (0 < q) = !g := by
  rw [← hg]
  by_cases h : z0 ≤ z1
  · rw [decide_eq_true h, decide_eq_false (by omega)]; rfl
  · rw [decide_eq_false h, decide_eq_true (by omega)]; rfl
 have Hd := hid hd
 have Hc := hid (Below.refl W0.heap.size W0).drew
 have hs0 := hs
 have Hc0 := hid (Below.refl W0.heap.size W0)
 replace hs := boxT_keep hs bdr_
 obtain ⟨HW, HB⟩ := hid2 hW0 hB1
 clear u1 u2 u3 u4 ea1 ea2 eb1 eb2 P1 P2 P3 P4 p1 p2 p3 p4 r1 r2 r3 r4 v1 v2 v3 v4 i1 i2 i3 i4 q1 q2 q3 q4 h1 h2 K1 K2 g1 g2 gu1 gu2 gl1 gl2 hq hle hd hg hz0 hz1 e0 e1 bA bB bR bR' hB0 hB1 hW0
 go_enter Tryz.func46, Tryz.ntmps46
 go_upto_region 1 with fail
 try simp only [HW.out]
 clear HW
 go_cut [6, 7] (fun s6 s7 wx => ∃ gx gy : Nat, s6 = .pointer (some ⟨gx, 0, none⟩) ∧ s7 = .pointer (some ⟨gy, 0, none⟩) ∧ Two3 W0 wx gx gy (.int .i64 y1) (.bool ys1) (.slice yA1 yl1.length yc1) (.int .i64 y2) (.bool ys2) (.slice yA2 yl2.length yc2))
 case first =>
  first | go_region_held3 (fun w' => D6 w' w.heap.size (.bool n0) (.bool s0) (.slice A l0.length a) (.bool n1) (.bool s1) (.slice B l1.length b) (C6 w' (w.heap.size + 1) (.bool m0) (.bool t0) (.slice C k0.length c) (.bool m1) (.bool t1) (.slice D k1.length d)))
   ((repeat' (first | with_reducible apply boxT_al rfl | with_reducible apply boxT_st3 rfl)) <;> (first | with_reducible exact hs | (with_reducible apply boxT_dr rfl; (repeat' (with_reducible apply boxT_al rfl)); with_reducible exact hs0) | omega))
   (((first
     | (go_at_call 58; (first | (with_reducible refine (L1.out _).mono ?_)  | (with_reducible refine (L3.out _).mono ?_)); rintro e w2 ⟨rfl, hc2⟩)
     | (go_at_call 59; (first | (with_reducible refine (L2.out _).mono ?_)  | (with_reducible refine (L4.out _).mono ?_)); rintro e w2 ⟨rfl, hc2⟩)
     | (go_at_call 80; (first | (with_reducible refine (G1.out _ Hc.out).mono ?_)  | (with_reducible refine (G1.out _ (from_ Hc.out bal_)).mono ?_)  | (with_reducible refine (G1.out _ (from_ (from_ Hc.out bal_) bal_)).mono ?_)); rintro e w2 ⟨rfl, hc2⟩)
     | (go_at_call 81; (first | (with_reducible refine (G2.out _ Hc.out).mono ?_)  | (with_reducible refine (G2.out _ (from_ Hc.out bal_)).mono ?_)  | (with_reducible refine (G2.out _ (from_ (from_ Hc.out bal_) bal_)).mono ?_)); rintro e w2 ⟨rfl, hc2⟩)); (first | (with_reducible have hx := boxT_keep hs hc2; have hb := hid (from_ Hc.out hc2); (try replace HF1 := hid (HF1.out.below hc2)); (try replace HF2 := hid (HF2.out.below hc2))) | (with_reducible have z1 := Hc.out.size; have hx := boxT_keep (boxT_keep hs bal_) hc2; have hb := hid (from_ (from_ Hc.out bal_) hc2); (first | (have ne1 := Nat.ne_of_lt HF1.out.lt; have ne2 := Ne.symm ne1; have HF2 := hid ((Box3.new _ (.int .i64 0) (.bool false) (.slice none 0 0) 117).below hc2); replace HF1 := hid ((HF1.out.below bal_).below hc2)) | (have HF1 := hid ((Box3.new _ (.int .i64 0) (.bool false) (.slice none 0 0) 117).below hc2)))) | (with_reducible have z1 := Hc.out.size; have hx := boxT_keep (boxT_keep (boxT_keep hs bal_) bal_) hc2; have hb := hid (from_ (from_ (from_ Hc.out bal_) bal_) hc2); (have HF1 := hid (((Box3.new _ (.int .i64 0) (.bool false) (.slice none 0 0) 117).below bal_).below hc2)); (have HF2 := hid ((Box3.new2 _ _ (.int .i64 0) (.bool false) (.slice none 0 0) 117).below hc2))) | (with_reducible have z1 := Hc0.out.size; have hx := boxT_keep (boxT_keep (boxT_keep hs0 bal_) bdr_) hc2; have hb := hid (from_ (from_ (from_ Hc0.out bal_) bdr_) hc2); have HF1 := hid (((Box3.new _ (.int .i64 0) (.bool false) (.slice none 0 0) 117).below bdr_).below hc2)) | (with_reducible have z1 := Hc0.out.size; have hx := boxT_keep (boxT_keep (boxT_keep (boxT_keep hs0 bal_) bal_) bdr_) hc2; have hb := hid (from_ (from_ (from_ (from_ Hc0.out bal_) bal_) bdr_) hc2); (have HF1 := hid ((((Box3.new _ (.int .i64 0) (.bool false) (.slice none 0 0) 117).below bal_).below bdr_).below hc2)); (have HF2 := hid (((Box3.new2 _ _ (.int .i64 0) (.bool false) (.slice none 0 0) 117).below bdr_).below hc2)))); replace hs := hx; replace Hc := hb; clear hx hb; (try clear x0 x1 x2 x3 x4 x5); (try clear x6 x7 x8 x9 x10 x11); (try have ne3 := Nat.ne_of_lt HF1.out.lt); (try have ne4 := Ne.symm ne3); (try obtain ⟨x0, x1, x2, x3, x4, x5, _⟩ := id HF1.out); (try obtain ⟨x6, x7, x8, x9, x10, x11, _⟩ := id HF2.out); have lz := Hc.out.size; clear hc2)) | fail
  all_goals
   clear L1 L2 L3 L4 G1 G2 CM B1 B2 hs hs0
   go_wp2_with fail
   go_meet
   refine ⟨_, _, rfl, rfl, ?_⟩
   (first | (with_reducible apply Two3.nn) | (with_reducible apply Two3.nm) | (with_reducible apply Two3.oo) | (with_reducible apply Two3.on) | (with_reducible apply Two3.no)) <;> (first | with_reducible exact Hc.out | with_reducible exact HF1.out | with_reducible exact HF2.out | with_reducible exact ne1 | with_reducible exact ne2 | omega)
 case rest =>
  obtain ⟨gx, gy, rfl, rfl, hT⟩ := hcut
  clear hs hs0 Hc Hc0 L1 L2 L3 L4 G1 G2
  have lx := hT.lx
  have ly := hT.ly
  have Hc := hid hT.bel
  have hs := And.intro (hT.bx.c0) (And.intro hT.bx.c1 (And.intro hT.bx.c2 (And.intro hT.by_.c0 (And.intro hT.by_.c1 hT.by_.c2))))
  have Hs := hid (show D3 wc gx (.int .i64 y1) (.bool ys1) (.slice yA1 yl1.length yc1) (C3 wc gy (.int .i64 y2) (.bool ys2) (.slice yA2 yl2.length yc2)) from ⟨hT.bx.c0, hT.bx.c1, hT.bx.c2, hT.by_.c0, hT.by_.c1, hT.by_.c2⟩)
  obtain ⟨x0, x1', x2', y0, y1', y2'⟩ := hs
  clear hT
  go_wp2_with fail
  refine (CM.out _ Hc.out).mono ?_
  rintro e w1 ⟨rfl, hc⟩
  clear x0 x1' x2' y0 y1' y2'
  replace Hs := hid (two3_keep Hs.out hc)
  replace Hc := hid (from_ Hc.out hc)
  replace HR := hid (HR.out.below (from_ (Below.refl _ _) Hc.out))
  have hd := Hd.out
  clear CM hc Hd
  cases g with
  | false =>
    have HP := hid (HR.out.put (from_ HB.out Hc.out) (Nat.le_trans (Nat.le_succ _) (Nat.le_succ _)) (.bool false) (.bool false) (.slice none 0 0) (.bool false) (.bool false) (.slice none 0 0))
    obtain ⟨g0, g1, g2, g3, g4, g5, f0, f1, f2, f3, f4, f5, _⟩ := id HR.out
    go_wp2
    refine bodyPost_ret (res_itv2 rfl _ (w.heap.size + 1 + 1) rfl HP.out.box) rfl ?_
    exact ⟨rfl, HP.out.bel⟩
  | true =>
    go_wp2
    generalize hgR : w.heap.size + 1 + 1 = gR at *
    have n1 : gR ≠ gx := by omega
    have n2 : gR ≠ gy := by omega
    have n3 : w.heap.size ≤ gR := by omega
    obtain ⟨N1, N2, N3⟩ := hid3 n1 n2 n3
    clear hgR n1 n2 n3 lx ly hsz hd
    have hs := two3_keep Hs.out bdr_
    replace HR := hid (HR.out.below bdr_)
    replace Hc := hid (from_ Hc.out bdr_)
    clear Hs
    first | go_region_held3 (fun w' => D3 w' gx (.int .i64 y1) (.bool ys1) (.slice yA1 yl1.length yc1) (C3 w' gy (.int .i64 y2) (.bool ys2) (.slice yA2 yl2.length yc2)))
     ((first | with_reducible exact hs | ((with_reducible apply two3_st6 rfl) <;> (first | with_reducible exact hs | exact N1.out | exact N2.out))))
     (first
      | (go_at_call 82; with_reducible refine (B1.out _ Hc.out).mono ?_; rintro e w2 ⟨A1, c1, rfl, o1, hc2⟩; replace o1 := o1.mono (Y := new (gR + 1)) (new_le (Nat.succ_le_of_lt HR.out.lt)); replace hs := two3_keep hs hc2; replace HR := hid (HR.out.below hc2); replace Hc := hid (from_ Hc.out hc2))
      | (go_at_call 82; with_reducible refine (B2.out _ Hc.out).mono ?_; rintro e w2 ⟨A2, c2, rfl, o2, hc2⟩; replace o2 := o2.mono (Y := new (gR + 1)) (new_le (Nat.succ_le_of_lt HR.out.lt)); replace o1 := o1.below hc2; replace hs := two3_keep hs hc2; replace HR := hid (HR.out.below hc2); replace Hc := hid (from_ Hc.out hc2); have g0 := HR.out.cf)) | fail
    all_goals
     obtain ⟨HP, U1, U2⟩ := hid3 (HR.out.put (from_ HB.out Hc.out) N3.out (.bool rn0) (.bool ys1) (.slice A1 yl1.length c1) (.bool rn1) (.bool ys2) (.slice A2 yl2.length c2)) ((o1.set6 (g := gR) (fun (h : gR + 1 ≤ gR) => by omega) (.bool rn0) (.bool ys1) (.slice A1 yl1.length c1) (.bool rn1) (.bool ys2) (.slice A2 yl2.length c2)).mono (new_le (show w.heap.size ≤ gR + 1 from Nat.le_succ_of_le N3.out))) ((o2.set6 (g := gR) (fun (h : gR + 1 ≤ gR) => by omega) (.bool rn0) (.bool ys1) (.slice A1 yl1.length c1) (.bool rn1) (.bool ys2) (.slice A2 yl2.length c2)).mono (new_le (show w.heap.size ≤ gR + 1 from Nat.le_succ_of_le N3.out)))
     clear o1 o2
     go_wp2
     refine bodyPost_ret (res_itv2 rfl _ gR rfl HP.out.box) rfl ?_
     first | exact ⟨⟨_, _, _, _, rfl, U1.out, U2.out⟩, HP.out.bel⟩ | (simp only [true_implies, Bool.true_eq_false, Bool.false_eq_true, false_implies, true_and]; exact ⟨⟨_, _, _, _, rfl, U1.out, U2.out⟩, HP.out.bel⟩)
def wN (N : Nat) : Int := 18446744073709551616 ^ N
theorem wN_cast (N : Nat) : wN N = ((18446744073709551616 ^ N : Nat) : Int) := by unfold wN; rw [Int.natCast_pow]; rfl
theorem wN_pos (N : Nat) : 0 < wN N := by unfold wN; exact Int.pow_pos (by decide)
theorem wN_mono (h : N ≤ M) : wN N ≤ wN M := by
 rw [wN_cast, wN_cast]
 exact Int.ofNat_le.2 (Nat.pow_le_pow_right (by decide) h)
theorem wN_mul (N M : Nat) : wN N * wN M = wN (N + M) := (Int.pow_add _ _ _).symm
theorem wN_big : wN 64 = bigZ := rfl
theorem wN_le (h : N ≤ 64) : wN N ≤ bigZ := by rw [← wN_big]; exact wN_mono h
theorem wN_two (N : Nat) : wN N + wN N ≤ wN (N + 1) := by
 rw [← wN_mul]
 have h1 : wN 1 = 18446744073709551616 := rfl
 have h2 := wN_pos N
 rw [h1]
 omega
theorem Pl.ext {b : Int} {l : List Nat} (h : Pl x b s l) (hl : l.length ≤ N) : Ext bigZ (wN N) x := by
 rcases h with ⟨rfl, ⟨rfl, rfl⟩, _, _⟩ | ⟨_, _, _, h⟩ | ⟨_, _, _, h⟩
 · right; right
   have h1 := val_lt (small_limbs x.natAbs)
   rw [val_limbs] at h1
   have h2 : x.natAbs < 18446744073709551616 ^ N := Nat.lt_of_lt_of_le h1 (Nat.pow_le_pow_right (by decide) hl)
   have h3 : (x.natAbs : Int) < wN N := by rw [wN_cast]; exact Int.ofNat_lt.2 h2
   omega
 · exact .inl h
 · exact .inr (.inl h)
theorem Pl.len_of (h : Pl z e r m) (hz : Ext bigZ (wN N) z) : m.length ≤ N := by
 rcases h with ⟨rfl, ⟨rfl, rfl⟩, h1, h2⟩ | ⟨_, _, rfl, h⟩ | ⟨_, _, rfl, h⟩
 · refine len_limbs_le ?_
   have h3 : -wN N < z ∧ z < wN N := by
    unfold Ext at hz
    omega
   rw [wN_cast] at h3
   have h4 : (z.natAbs : Int) < ((18446744073709551616 ^ N : Nat) : Int) := by omega
   exact Int.ofNat_lt.1 h4
 · simp
 · simp
theorem Ext.range (h : Ext bigZ (wN N) x) (hN : N ≤ 64) : -bigZ ≤ x ∧ x ≤ bigZ := by
 have h1 := wN_le hN
 have h2 := bigZ_pos
 unfold Ext at h
 omega
theorem Ext.up (h : Ext bigZ (wN N) x) (hN : N ≤ M) : Ext bigZ (wN M) x := by
 have h1 := wN_mono hN
 unfold Ext at *
 omega
theorem ext_plus (hx : Ext bigZ (wN N) x) (hy : Ext bigZ (wN N) y) : Ext bigZ (wN (N + 1)) (plusE bigZ x y) := by
 have h1 := wN_two N
 unfold plusE
 unfold Ext at *
 split
 · simp
 · split
   · simp
   · omega
structure IvN (N : Nat) (x y : Int) : Prop where
 lo : Ext bigZ (wN N) x
 hi : Ext bigZ (wN N) y
 le : x ≤ y
 nlo : x < bigZ
 nhi : -bigZ < y
theorem IvN.up (h : IvN N x y) (hN : N ≤ M) : IvN M x y := ⟨h.lo.up hN, h.hi.up hN, h.le, h.nlo, h.nhi⟩
theorem ivn_plus {t : Int} (h : IvN N x y) (g : IvN N z t) (hN : N ≤ 60) : IvN (N + 1) (plusE bigZ x z) (plusE bigZ y t) := by
 obtain ⟨a1, a2, a3, a4, a5⟩ := h
 obtain ⟨b1, b2, b3, b4, b5⟩ := g
 have h1 := wN_two N
 have h2 := wN_le (show N + 1 ≤ 64 by omega)
 have h3 := bigZ_pos
 have h4 := wN_pos N
 refine ⟨ext_plus a1 b1, ext_plus a2 b2, ?_, ?_, ?_⟩
 all_goals
  unfold plusE
  unfold Ext at *
  split <;> (try split) <;> (try split) <;> (try split) <;> omega
theorem ext_min {a b : Int} (ha : Ext bigZ (wN N) a) (hb : Ext bigZ (wN N) b) : Ext bigZ (wN N) (min a b) := by
 rcases Int.le_total a b with h | h
 · rw [Int.min_eq_left h]; exact ha
 · rw [Int.min_eq_right h]; exact hb
theorem ext_max {a b : Int} (ha : Ext bigZ (wN N) a) (hb : Ext bigZ (wN N) b) : Ext bigZ (wN N) (max a b) := by
 rcases Int.le_total a b with h | h
 · rw [Int.max_eq_right h]; exact hb
 · rw [Int.max_eq_left h]; exact ha
theorem Pl.fin (h : Pl z e r m) (hz : -bigZ < z ∧ z < bigZ) : e = 0 ∧ Nm z r m := by
 rcases h with ⟨rfl, n, _⟩ | ⟨_, _, _, h⟩ | ⟨_, _, _, h⟩
 · exact ⟨rfl, n⟩
 · omega
 · omega
theorem Pl.top (h : Pl z e r m) (hz : z = bigZ) : e = 1 ∧ r = false ∧ m = [] := by
 have h0 := bigZ_pos
 rcases h with ⟨_, _, h1, h2⟩ | ⟨h1, h2, h3, _⟩ | ⟨_, _, _, h⟩
 · omega
 · exact ⟨h1, h2, h3⟩
 · omega
theorem Pl.bot (h : Pl z e r m) (hz : z = -bigZ) : e = -1 ∧ r = false ∧ m = [] := by
 have h0 := bigZ_pos
 rcases h with ⟨_, _, h1, h2⟩ | ⟨_, _, _, h⟩ | ⟨h1, h2, h3, _⟩
 · omega
 · omega
 · exact ⟨h1, h2, h3⟩
theorem boxD_of (h1 : Box3 W g a0 a1 a2) (h2 : Box3 W h b0 b1 b2) :
 D3 W g a0 a1 a2 (C3 W h b0 b1 b2) := ⟨h1.c0, h1.c1, h1.c2, h2.c0, h2.c1, h2.c2⟩
theorem boxD_keep (hs : D3 W g a0 a1 a2 (C3 W h b0 b1 b2)) (hb : Below W.heap.size W W') :
  D3 W' g a0 a1 a2 (C3 W' h b0 b1 b2) :=
 ⟨keepC hb hs.1, keepC hb hs.2.1, keepC hb hs.2.2.1, keepC hb hs.2.2.2.1, keepC hb hs.2.2.2.2.1, keepC hb hs.2.2.2.2.2⟩
theorem ext_sum (hx : Ext bigZ (wN 62) x) (hy : Ext bigZ (wN 62) y) (fx : -bigZ < x ∧ x < bigZ) (fy : -bigZ < y ∧ y < bigZ) : -bigZ < x + y ∧ x + y < bigZ := by
 have h1 : 2 * wN 62 ≤ wN 63 := wN_two 62
 have h2 := wN_le (show 63 ≤ 64 by omega)
 have h3 := wN_pos 62
 unfold Ext at hx hy
 omega
theorem iplus_p {b d : Int} {l k : List Nat} {f : Nat} (h1 : Pl x b s l) (h2 : Pl y d t k) (h3 : Pl z e r m) (hz : plusE bigZ x y = z) (hno : ¬ (x = bigZ ∧ y = -bigZ) ∧ ¬ (x = -bigZ ∧ y = bigZ)) (hu : U64s w Z A c l) (hv : U64s w Y B f k) (hl : l.length ≤ 62) (hl2 : k.length ≤ 62) :
  Calls Tryz.prog 95 #[.agg #[.int .i64 b, .bool s, .slice A l.length c], .agg #[.int .i64 d, .bool t, .slice B k.length f]] w fun e' w' => ∃ A' c', e' = .returned (.agg #[.int .i64 e, .bool r, .slice A' m.length c']) ∧ U64s w' (new w.heap.size) A' c' m ∧ Below w.heap.size w w' := by
 have hbz := bigZ_pos
 have ex := h1.ext hl
 have ey := h2.ext hl2
 rcases h1 with ⟨rfl, n1, r1, r2⟩ | ⟨rfl, rfl, rfl, hx⟩ | ⟨rfl, rfl, rfl, hx⟩
 · rcases h2 with ⟨rfl, n2, g1, g2⟩ | ⟨rfl, rfl, rfl, hy⟩ | ⟨rfl, rfl, rfl, hy⟩
   · have ez : x + y = z := by
      rw [← hz]
      unfold plusE
      rw [if_neg (by omega), if_neg (by omega)]
     obtain ⟨rfl, n3⟩ := h3.fin (by rw [← ez]; exact ext_sum ex ey ⟨r1, r2⟩ ⟨g1, g2⟩)
     clear hz hno ex ey h3
     obtain ⟨bA, bB, bR, hB0⟩ := boxS w (.int .i64 0) (.bool s) (.slice A l.length c) (.int .i64 0) (.bool t) (.slice B k.length f) (.int .i64 0) (.bool false) (.slice none 0 0) 117
     obtain ⟨HA, HBx, HR, HB⟩ := hid4 bA bB bR hB0
     obtain ⟨a0, a1, a2, _, _, _, _⟩ := bA
     obtain ⟨b0, b1, b2, _, _, _, _⟩ := bB
     have CA := hid (wadd_n n1 n2 n3 ez (by omega) (by omega) (hu.below hB0) (hv.below hB0))
     clear hu hv hl hl2 n1 n2 n3 bR hB0
     go_enter Tryz.func95, Tryz.ntmps95
     go_wp2_with fail
     refine CA.out.mono ?_
     rintro e' w1 ⟨Av, cv, rfl, u1, hc⟩
     have hB1 := from_ HB.out hc
     have bR1 := HR.out.below hc
     have hP := bR1.put hB1 (by omega) (.int .i64 0) (.bool r) (.slice Av m.length cv)
     obtain ⟨HP, hal⟩ := hid2 hP ((Below.refl _ (((w1.setCell ⟨w.heap.size + 2, 0, none⟩ (.int .i64 0)).setCell ⟨w.heap.size + 2, 1, none⟩ (.bool r)).setCell ⟨w.heap.size + 2, 2, none⟩ (.slice Av m.length cv))).alloc (Nat.le_refl _) (.cells #[.bool r, .slice Av m.length cv] 25))
     have U1 := hid (((hP.keep (fun (h : _ ≤ w.heap.size + 2) => by have h8 := HR.out.lt; omega) u1).mono (new_le HB.out.size)).below hal.out)
     obtain ⟨q0, q1, q2, f0, f1, f2, z1⟩ := bR1
     obtain ⟨p0, p1, p2, _⟩ := HA.out.below hc
     obtain ⟨p3, p4, p5, _⟩ := HBx.out.below hc
     have y1 : ¬ w1.heap.size = w.heap.size + 2 := by omega
     have y2 : ¬ w.heap.size + 2 = w1.heap.size := by omega
     clear hP u1 hc hB1
     go_wp2
     refine bodyPost_ret (res_place rfl _ (w.heap.size + 2) rfl (keepC hal.out HP.out.c0) (keepC hal.out HP.out.c1) (keepC hal.out HP.out.c2)) rfl ?_
     exact ⟨_, _, rfl, U1.out, from_ HP.out.bel hal.out⟩
   · obtain ⟨rfl, rfl, rfl⟩ := h3.top (by
      rw [← hz]
      unfold plusE
      rw [if_neg (by omega), if_pos (by omega)])
     clear hz hno ex ey h3 hu hv
     generalize l.length = L1 at *
     obtain ⟨bA, bB, bR, hB0⟩ := boxS w (.int .i64 0) (.bool s) (.slice A L1 c) (.int .i64 1) (.bool false) (.slice B 0 f) (.int .i64 0) (.bool false) (.slice none 0 0) 117
     obtain ⟨HA, HBx, HR, HB⟩ := hid4 bA bB bR hB0
     obtain ⟨a0, a1, a2, _, _, _, _⟩ := bA
     obtain ⟨b0, b1, b2, _, _, _, _⟩ := bB
     obtain ⟨_, _, cR, hC0⟩ := boxS w (.int .i64 0) (.bool s) (.slice A L1 c) (.int .i64 1) (.bool false) (.slice B 0 f) (.int .i64 (1)) (.bool false) (.slice none 0 0) 117
     obtain ⟨q0, q1, q2, f0, f1, f2, _⟩ := bR
     obtain ⟨CR, HC⟩ := hid2 cR hC0
     clear hB0 HA HBx HR HB cR hC0
     go_enter Tryz.func95, Tryz.ntmps95
     go_wp2
     refine bodyPost_ret (res_place rfl _ (w.heap.size + 2) rfl CR.out.c0 CR.out.c1 CR.out.c2) rfl ?_
     exact ⟨none, 0, rfl, U64s.nil _ _, HC.out⟩
   · obtain ⟨rfl, rfl, rfl⟩ := h3.bot (by
      rw [← hz]
      unfold plusE
      rw [if_pos (by omega)])
     clear hz hno ex ey h3 hu hv
     generalize l.length = L1 at *
     obtain ⟨bA, bB, bR, hB0⟩ := boxS w (.int .i64 0) (.bool s) (.slice A L1 c) (.int .i64 (-1)) (.bool false) (.slice B 0 f) (.int .i64 0) (.bool false) (.slice none 0 0) 117
     obtain ⟨HA, HBx, HR, HB⟩ := hid4 bA bB bR hB0
     obtain ⟨a0, a1, a2, _, _, _, _⟩ := bA
     obtain ⟨b0, b1, b2, _, _, _, _⟩ := bB
     obtain ⟨_, _, cR, hC0⟩ := boxS w (.int .i64 0) (.bool s) (.slice A L1 c) (.int .i64 (-1)) (.bool false) (.slice B 0 f) (.int .i64 (-1)) (.bool false) (.slice none 0 0) 117
     obtain ⟨q0, q1, q2, f0, f1, f2, _⟩ := bR
     obtain ⟨CR, HC⟩ := hid2 cR hC0
     clear hB0 HA HBx HR HB cR hC0
     go_enter Tryz.func95, Tryz.ntmps95
     go_wp2
     refine bodyPost_ret (res_place rfl _ (w.heap.size + 2) rfl CR.out.c0 CR.out.c1 CR.out.c2) rfl ?_
     exact ⟨none, 0, rfl, U64s.nil _ _, HC.out⟩
 · rcases h2 with ⟨rfl, n2, g1, g2⟩ | ⟨rfl, rfl, rfl, hy⟩ | ⟨rfl, rfl, rfl, hy⟩
   · obtain ⟨rfl, rfl, rfl⟩ := h3.top (by
      rw [← hz]
      unfold plusE
      rw [if_neg (by omega), if_pos (by omega)])
     clear hz hno ex ey h3 hu hv
     generalize k.length = L2 at *
     obtain ⟨bA, bB, bR, hB0⟩ := boxS w (.int .i64 1) (.bool false) (.slice A 0 c) (.int .i64 0) (.bool t) (.slice B L2 f) (.int .i64 0) (.bool false) (.slice none 0 0) 117
     obtain ⟨HA, HBx, HR, HB⟩ := hid4 bA bB bR hB0
     obtain ⟨a0, a1, a2, _, _, _, _⟩ := bA
     obtain ⟨b0, b1, b2, _, _, _, _⟩ := bB
     obtain ⟨_, _, cR, hC0⟩ := boxS w (.int .i64 1) (.bool false) (.slice A 0 c) (.int .i64 0) (.bool t) (.slice B L2 f) (.int .i64 (1)) (.bool false) (.slice none 0 0) 117
     obtain ⟨q0, q1, q2, f0, f1, f2, _⟩ := bR
     obtain ⟨CR, HC⟩ := hid2 cR hC0
     clear hB0 HA HBx HR HB cR hC0
     go_enter Tryz.func95, Tryz.ntmps95
     go_wp2
     refine bodyPost_ret (res_place rfl _ (w.heap.size + 2) rfl CR.out.c0 CR.out.c1 CR.out.c2) rfl ?_
     exact ⟨none, 0, rfl, U64s.nil _ _, HC.out⟩
   · obtain ⟨rfl, rfl, rfl⟩ := h3.top (by
      rw [← hz]
      unfold plusE
      rw [if_neg (by omega), if_pos (by omega)])
     clear hz hno ex ey h3 hu hv
     obtain ⟨bA, bB, bR, hB0⟩ := boxS w (.int .i64 1) (.bool false) (.slice A 0 c) (.int .i64 1) (.bool false) (.slice B 0 f) (.int .i64 0) (.bool false) (.slice none 0 0) 117
     obtain ⟨HA, HBx, HR, HB⟩ := hid4 bA bB bR hB0
     obtain ⟨a0, a1, a2, _, _, _, _⟩ := bA
     obtain ⟨b0, b1, b2, _, _, _, _⟩ := bB
     obtain ⟨_, _, cR, hC0⟩ := boxS w (.int .i64 1) (.bool false) (.slice A 0 c) (.int .i64 1) (.bool false) (.slice B 0 f) (.int .i64 (1)) (.bool false) (.slice none 0 0) 117
     obtain ⟨q0, q1, q2, f0, f1, f2, _⟩ := bR
     obtain ⟨CR, HC⟩ := hid2 cR hC0
     clear hB0 HA HBx HR HB cR hC0
     go_enter Tryz.func95, Tryz.ntmps95
     go_wp2
     refine bodyPost_ret (res_place rfl _ (w.heap.size + 2) rfl CR.out.c0 CR.out.c1 CR.out.c2) rfl ?_
     exact ⟨none, 0, rfl, U64s.nil _ _, HC.out⟩
   · exact absurd ⟨hx, hy⟩ hno.1
 · rcases h2 with ⟨rfl, n2, g1, g2⟩ | ⟨rfl, rfl, rfl, hy⟩ | ⟨rfl, rfl, rfl, hy⟩
   · obtain ⟨rfl, rfl, rfl⟩ := h3.bot (by
      rw [← hz]
      unfold plusE
      rw [if_pos (by omega)])
     clear hz hno ex ey h3 hu hv
     generalize k.length = L2 at *
     obtain ⟨bA, bB, bR, hB0⟩ := boxS w (.int .i64 (-1)) (.bool false) (.slice A 0 c) (.int .i64 0) (.bool t) (.slice B L2 f) (.int .i64 0) (.bool false) (.slice none 0 0) 117
     obtain ⟨HA, HBx, HR, HB⟩ := hid4 bA bB bR hB0
     obtain ⟨a0, a1, a2, _, _, _, _⟩ := bA
     obtain ⟨b0, b1, b2, _, _, _, _⟩ := bB
     obtain ⟨_, _, cR, hC0⟩ := boxS w (.int .i64 (-1)) (.bool false) (.slice A 0 c) (.int .i64 0) (.bool t) (.slice B L2 f) (.int .i64 (-1)) (.bool false) (.slice none 0 0) 117
     obtain ⟨q0, q1, q2, f0, f1, f2, _⟩ := bR
     obtain ⟨CR, HC⟩ := hid2 cR hC0
     clear hB0 HA HBx HR HB cR hC0
     go_enter Tryz.func95, Tryz.ntmps95
     go_wp2
     refine bodyPost_ret (res_place rfl _ (w.heap.size + 2) rfl CR.out.c0 CR.out.c1 CR.out.c2) rfl ?_
     exact ⟨none, 0, rfl, U64s.nil _ _, HC.out⟩
   · exact absurd ⟨hx, hy⟩ hno.2
   · obtain ⟨rfl, rfl, rfl⟩ := h3.bot (by
      rw [← hz]
      unfold plusE
      rw [if_pos (by omega)])
     clear hz hno ex ey h3 hu hv
     obtain ⟨bA, bB, bR, hB0⟩ := boxS w (.int .i64 (-1)) (.bool false) (.slice A 0 c) (.int .i64 (-1)) (.bool false) (.slice B 0 f) (.int .i64 0) (.bool false) (.slice none 0 0) 117
     obtain ⟨HA, HBx, HR, HB⟩ := hid4 bA bB bR hB0
     obtain ⟨a0, a1, a2, _, _, _, _⟩ := bA
     obtain ⟨b0, b1, b2, _, _, _, _⟩ := bB
     obtain ⟨_, _, cR, hC0⟩ := boxS w (.int .i64 (-1)) (.bool false) (.slice A 0 c) (.int .i64 (-1)) (.bool false) (.slice B 0 f) (.int .i64 (-1)) (.bool false) (.slice none 0 0) 117
     obtain ⟨q0, q1, q2, f0, f1, f2, _⟩ := bR
     obtain ⟨CR, HC⟩ := hid2 cR hC0
     clear hB0 HA HBx HR HB cR hC0
     go_enter Tryz.func95, Tryz.ntmps95
     go_wp2
     refine bodyPost_ret (res_place rfl _ (w.heap.size + 2) rfl CR.out.c0 CR.out.c1 CR.out.c2) rfl ?_
     exact ⟨none, 0, rfl, U64s.nil _ _, HC.out⟩
theorem isign_p {b g : Int} {l : List Nat} (h1 : Pl x b s l) (hg : sgn x = g) (hu : U64s w Z A c l) :
  Calls Tryz.prog 96 #[.agg #[.int .i64 b, .bool s, .slice A l.length c]] w fun e' w' => e' = .returned (.int .i64 g) ∧ Below w.heap.size w w' := by
 have hbz := bigZ_pos
 have hB0 : Below w.heap.size w (w.alloc (.cells #[.int .i64 b, .bool s, .slice A l.length c] 117)) := (Below.refl _ _).alloc (Nat.le_refl _) _
 have bA := Box3.new w (.int .i64 b) (.bool s) (.slice A l.length c) 117
 have HB := hid hB0
 obtain ⟨a0, a1, a2, _, _, _, _⟩ := bA
 rcases h1 with ⟨rfl, n1, r1, r2⟩ | ⟨rfl, rfl, rfl, hx⟩ | ⟨rfl, rfl, rfl, hx⟩
 · have CA := hid (sign_n n1 hg (hu.below hB0))
   clear hu n1 hB0 hg
   go_enter Tryz.func96, Tryz.ntmps96
   go_wp2_with fail
   refine CA.out.mono ?_
   rintro e' w1 ⟨rfl, hc⟩
   have hB1 := from_ HB.out hc
   go_wp2
   go_ret
   exact ⟨rfl, hB1⟩
 · obtain rfl : g = 1 := by rw [← hg]; unfold sgn; rw [if_neg (by omega), if_neg (by omega)]
   clear hu hB0 hg
   go_enter Tryz.func96, Tryz.ntmps96
   go_wp2
   go_ret
   exact ⟨rfl, HB.out⟩
 · obtain rfl : g = -1 := by rw [← hg]; unfold sgn; rw [if_neg (by omega), if_pos (by omega)]
   clear hu hB0 hg
   go_enter Tryz.func96, Tryz.ntmps96
   go_wp2
   go_ret
   exact ⟨rfl, HB.out⟩
theorem sgn3 (x : Int) : (sgn x = 0 ∧ x = 0) ∨ (sgn x = -1 ∧ x < 0) ∨ (sgn x = 1 ∧ 0 < x) := by
 unfold sgn
 split
 · exact .inl ⟨rfl, by assumption⟩
 · split
   · exact .inr (.inl ⟨rfl, by assumption⟩)
   · exact .inr (.inr ⟨rfl, by omega⟩)
theorem icrossed_any {n : Nat} (hn : n ≤ 60) {F : Nat} (hF : F = 98 ∨ F = 92 ∨ F = 99) {op : Int → Int → Int} 
  (u1 : U64s w Z1 A a l0) (u2 : U64s w Z2 B b l1) (u3 : U64s w Z3 C c k0) (u4 : U64s w Z4 D d k1) (h1 : okA n0 s0 l0 n1 s1 l1 = true) (h2 : okA m0 t0 k0 m1 t1 k1 = true)
  (q1 : l0.length ≤ n) (q2 : l1.length ≤ n) (q3 : k0.length ≤ n) (q4 : k1.length ≤ n)
  (hx : ∀ {x y b d : Int} {s t : Bool} {l k : List Nat}, (y = loV m0 t0 k0 ∨ y = hiV m1 t1 k1) → Pl x b s l → Pl y d t k → l.length ≤ n → k.length ≤ n → (x = loV n0 s0 l0 ∨ x = hiV n1 s1 l1) → Ext bigZ (wN 64) (op x y))
  (hC : ∀ {W : World} {Z Y : Zone} {x y z b d e : Int} {s t r : Bool} {l k m : List Nat} {A B : Option Addr} {c f : Nat}, (x = loV n0 s0 l0 ∨ x = hiV n1 s1 l1) → (y = loV m0 t0 k0 ∨ y = hiV m1 t1 k1) → Pl x b s l → Pl y d t k → Pl z e r m → op x y = z → U64s W Z A c l → U64s W Y B f k → l.length ≤ n → k.length ≤ n → Calls Tryz.prog F #[.agg #[.int .i64 b, .bool s, .slice A l.length c], .agg #[.int .i64 d, .bool t, .slice B k.length f]] W fun e' w' => ∃ A' c', e' = .returned (.agg #[.int .i64 e, .bool r, .slice A' m.length c']) ∧ U64s w' (new W.heap.size) A' c' m ∧ Below W.heap.size W w')
  (hz0 : z0 = lo4 (op (loV n0 s0 l0) (loV m0 t0 k0)) (op (loV n0 s0 l0) (hiV m1 t1 k1)) (op (hiV n1 s1 l1) (loV m0 t0 k0)) (op (hiV n1 s1 l1) (hiV m1 t1 k1))) (hz1 : z1 = hi4 (op (loV n0 s0 l0) (loV m0 t0 k0)) (op (loV n0 s0 l0) (hiV m1 t1 k1)) (op (hiV n1 s1 l1) (loV m0 t0 k0)) (op (hiV n1 s1 l1) (hiV m1 t1 k1))) (gm : z0 < bigZ) (gM : -bigZ < z1) (e0 : EndL z0 rn0 rs0 rl0) (e1 : EndH z1 rn1 rs1 rl1) :
  Calls Tryz.prog 91 #[.agg #[.bool n0, .bool s0, .slice A l0.length a, .bool n1, .bool s1, .slice B l1.length b], .agg #[.bool m0, .bool t0, .slice C k0.length c, .bool m1, .bool t1, .slice D k1.length d], .func (.func F) #[] #[]] w fun e w' => ∃ rA ra rB rb, e = .returned (.agg #[.bool rn0, .bool rs0, .slice rA rl0.length ra, .bool rn1, .bool rs1, .slice rB rl1.length rb]) ∧ U64s w' (new w.heap.size) rA ra rl0 ∧ U64s w' (new w.heap.size) rB rb rl1 ∧ Below w.heap.size w w' := by
 obtain ⟨bA, bB, bR, hB0⟩ := boxX w (.bool n0) (.bool s0) (.slice A l0.length a) (.bool n1) (.bool s1) (.slice B l1.length b) (.bool m0) (.bool t0) (.slice C k0.length c) (.bool m1) (.bool t1) (.slice D k1.length d) (.bool false) (.bool false) (.slice none 0 0) (.bool false) (.bool false) (.slice none 0 0) 29
 obtain ⟨ea1, ea2⟩ := okA_ends h1
 obtain ⟨eb1, eb2⟩ := okA_ends h2
 obtain ⟨x1, xs1, xl1, xA1, xc1, P1⟩ := Plc.ex (-1) n0 s0 l0 A a
 obtain ⟨x2, xs2, xl2, xA2, xc2, P2⟩ := Plc.ex 1 n1 s1 l1 B b
 obtain ⟨x3, xs3, xl3, xA3, xc3, P3⟩ := Plc.ex (-1) m0 t0 k0 C c
 obtain ⟨x4, xs4, xl4, xA4, xc4, P4⟩ := Plc.ex 1 m1 t1 k1 D d
 have p1 := P1.lo ea1 u1.small (by omega)
 have p2 := P2.hi ea2 u2.small (by omega)
 have p3 := P3.lo eb1 u3.small (by omega)
 have p4 := P4.hi eb2 u4.small (by omega)
 have r1 := P1.len
 have r2 := P2.len
 have r3 := P3.len
 have r4 := P4.len
 have v1 := P1.u64s u1
 have v2 := P2.u64s u2
 have v3 := P3.u64s u3
 have v4 := P4.u64s u4
 have i1 := lo_range (n := n0) (s := s0) u1.small (by omega)
 have i2 := hi_range (n := n1) (s := s1) u2.small (by omega)
 have i3 := lo_range (n := m0) (s := t0) u3.small (by omega)
 have i4 := hi_range (n := m1) (s := t1) u4.small (by omega)
 obtain ⟨L1, L2, L3, L4⟩ := hid4 (fun (W : World) => ilow_p (w := W) (v3 := .bool n1) (v4 := .bool s1) (v5 := .slice B l1.length b) P1) (fun (W : World) => ihigh_p (w := W) (v3 := .bool n0) (v4 := .bool s0) (v5 := .slice A l0.length a) P2) (fun (W : World) => ilow_p (w := W) (v3 := .bool m1) (v4 := .bool t1) (v5 := .slice D k1.length d) P3) (fun (W : World) => ihigh_p (w := W) (v3 := .bool m0) (v4 := .bool t0) (v5 := .slice C k0.length c) P4)
 generalize loV n0 s0 l0 = X1 at *
 generalize hiV n1 s1 l1 = X2 at *
 generalize loV m0 t0 k0 = X3 at *
 generalize hiV m1 t1 k1 = X4 at *
 obtain ⟨Y1, hY1⟩ : ∃ Y, op X1 X3 = Y := ⟨_, rfl⟩
 have xx1 : Ext bigZ (wN 64) Y1 := by rw [← hY1]; exact hx (.inl rfl) p1 p3 (by omega) (by omega) (.inl rfl)
 obtain ⟨y1, ys1, yl1, py1⟩ : ∃ b s l, Pl Y1 b s l := ⟨_, _, _, Pl.all (xx1.range (by omega))⟩
 have yn1 := py1.len_of xx1
 have T1 : Hid (∀ W, Below w.heap.size w W → Calls Tryz.prog F #[.agg #[.int .i64 x1, .bool xs1, .slice xA1 xl1.length xc1], .agg #[.int .i64 x3, .bool xs3, .slice xA3 xl3.length xc3]] W fun e' w' => ∃ A' c', e' = .returned (.agg #[.int .i64 y1, .bool ys1, .slice A' yl1.length c']) ∧ U64s w' (new W.heap.size) A' c' yl1 ∧ Below W.heap.size W w') := fun W g => hC (.inl rfl) (.inl rfl) p1 p3 py1 hY1 (v1.below g) (v3.below g) (by omega) (by omega)
 obtain ⟨Y2, hY2⟩ : ∃ Y, op X1 X4 = Y := ⟨_, rfl⟩
 have xx2 : Ext bigZ (wN 64) Y2 := by rw [← hY2]; exact hx (.inr rfl) p1 p4 (by omega) (by omega) (.inl rfl)
 obtain ⟨y2, ys2, yl2, py2⟩ : ∃ b s l, Pl Y2 b s l := ⟨_, _, _, Pl.all (xx2.range (by omega))⟩
 have yn2 := py2.len_of xx2
 have T2 : Hid (∀ W, Below w.heap.size w W → Calls Tryz.prog F #[.agg #[.int .i64 x1, .bool xs1, .slice xA1 xl1.length xc1], .agg #[.int .i64 x4, .bool xs4, .slice xA4 xl4.length xc4]] W fun e' w' => ∃ A' c', e' = .returned (.agg #[.int .i64 y2, .bool ys2, .slice A' yl2.length c']) ∧ U64s w' (new W.heap.size) A' c' yl2 ∧ Below W.heap.size W w') := fun W g => hC (.inl rfl) (.inr rfl) p1 p4 py2 hY2 (v1.below g) (v4.below g) (by omega) (by omega)
 obtain ⟨Y3, hY3⟩ : ∃ Y, op X2 X3 = Y := ⟨_, rfl⟩
 have xx3 : Ext bigZ (wN 64) Y3 := by rw [← hY3]; exact hx (.inl rfl) p2 p3 (by omega) (by omega) (.inr rfl)
 obtain ⟨y3, ys3, yl3, py3⟩ : ∃ b s l, Pl Y3 b s l := ⟨_, _, _, Pl.all (xx3.range (by omega))⟩
 have yn3 := py3.len_of xx3
 have T3 : Hid (∀ W, Below w.heap.size w W → Calls Tryz.prog F #[.agg #[.int .i64 x2, .bool xs2, .slice xA2 xl2.length xc2], .agg #[.int .i64 x3, .bool xs3, .slice xA3 xl3.length xc3]] W fun e' w' => ∃ A' c', e' = .returned (.agg #[.int .i64 y3, .bool ys3, .slice A' yl3.length c']) ∧ U64s w' (new W.heap.size) A' c' yl3 ∧ Below W.heap.size W w') := fun W g => hC (.inr rfl) (.inl rfl) p2 p3 py3 hY3 (v2.below g) (v3.below g) (by omega) (by omega)
 obtain ⟨Y4, hY4⟩ : ∃ Y, op X2 X4 = Y := ⟨_, rfl⟩
 have xx4 : Ext bigZ (wN 64) Y4 := by rw [← hY4]; exact hx (.inr rfl) p2 p4 (by omega) (by omega) (.inr rfl)
 obtain ⟨y4, ys4, yl4, py4⟩ : ∃ b s l, Pl Y4 b s l := ⟨_, _, _, Pl.all (xx4.range (by omega))⟩
 have yn4 := py4.len_of xx4
 have T4 : Hid (∀ W, Below w.heap.size w W → Calls Tryz.prog F #[.agg #[.int .i64 x2, .bool xs2, .slice xA2 xl2.length xc2], .agg #[.int .i64 x4, .bool xs4, .slice xA4 xl4.length xc4]] W fun e' w' => ∃ A' c', e' = .returned (.agg #[.int .i64 y4, .bool ys4, .slice A' yl4.length c']) ∧ U64s w' (new W.heap.size) A' c' yl4 ∧ Below W.heap.size W w') := fun W g => hC (.inr rfl) (.inr rfl) p2 p4 py4 hY4 (v2.below g) (v4.below g) (by omega) (by omega)
 have COR : Hid (∀ (W : World) (ty : TypeId) (Z5 Z6 Z7 Z8 : Zone) (D1 D2 D3 D4 : Option Addr) (d1 d2 d3 d4 : Nat), U64s W Z5 D1 d1 yl1 → U64s W Z6 D2 d2 yl2 → U64s W Z7 D3 d3 yl3 → U64s W Z8 D4 d4 yl4 → Calls Tryz.prog 100 #[.slice (some ⟨W.heap.size, 0, none⟩) 4 4] (W.alloc (.cells #[.int .i64 y1, .bool ys1, .slice D1 yl1.length d1, .int .i64 y2, .bool ys2, .slice D2 yl2.length d2, .int .i64 y3, .bool ys3, .slice D3 yl3.length d3, .int .i64 y4, .bool ys4, .slice D4 yl4.length d4] ty)) fun e w' => ∃ A1 c1 A2 c2, e = .returned (.agg #[.bool rn0, .bool rs0, .slice A1 rl0.length c1, .bool rn1, .bool rs1, .slice A2 rl1.length c2]) ∧ U64s w' (new W.heap.size) A1 c1 rl0 ∧ U64s w' (new W.heap.size) A2 c2 rl1 ∧ Below W.heap.size W w') := fun W ty Z5 Z6 Z7 Z8 D1 D2 D3 D4 d1 d2 d3 d4 g1 g2 g3 g4 => by
  have h9 := icorners4 (W := W) (ty := ty) (p := ⟨_, y1, ys1, yl1⟩) (q := ⟨_, y2, ys2, yl2⟩) (r := ⟨_, y3, ys3, yl3⟩) (s := ⟨_, y4, ys4, yl4⟩) py1 py2 py3 py4 g1 g2 g3 g4 (by dsimp only; omega) (by dsimp only; omega) (by dsimp only; omega) (by dsimp only; omega) (m := z0) (M := z1) (by dsimp only; rw [hz0, ← hY1, ← hY2, ← hY3, ← hY4]) (by dsimp only; rw [hz1, ← hY1, ← hY2, ← hY3, ← hY4]) gm gM e0 e1
  exact h9
 have hs := boxT_of bA bB
 replace hs := boxT_keep hs bdr_
 have Hc := hid hB0.drew
 have bR' : Box6 _ (w.heap.size + 1 + 1) _ _ _ _ _ _ := bR
 have HR := hid (bR'.below bdr_)
 clear hx hC bA bB bR bR' hB0 hz0 hz1 e0 e1 gm gM
 clear hY1 xx1 py1 yn1 hY2 xx2 py2 yn2 hY3 xx3 py3 yn3 hY4 xx4 py4 yn4
 clear u1 u2 u3 u4 ea1 ea2 eb1 eb2 P1 P2 P3 P4 p1 p2 p3 p4 r1 r2 r3 r4 v1 v2 v3 v4 i1 i2 i3 i4 q1 q2 q3 q4 h1 h2
 rcases hF with rfl | rfl | rfl
 all_goals
  go_enter Tryz.func91, Tryz.ntmps91
  go_wp2
  generalize hgR : w.heap.size + 1 + 1 = gR at *
  have n1 : gR ≠ w.heap.size := by omega
  have n2 : gR ≠ w.heap.size + 1 := by omega
  have n3 : w.heap.size ≤ gR := by omega
  obtain ⟨N1, N2, N3⟩ := hid3 n1 n2 n3
  clear hgR n1 n2 n3
  first | go_region_held3 (fun w' => D6 w' w.heap.size (.bool n0) (.bool s0) (.slice A l0.length a) (.bool n1) (.bool s1) (.slice B l1.length b) (C6 w' (w.heap.size + 1) (.bool m0) (.bool t0) (.slice C k0.length c) (.bool m1) (.bool t1) (.slice D k1.length d)))
   (first
    | with_reducible exact hs
    | with_reducible exact boxT_st6 N1.out N2.out hs
    | exact boxT_keep hs bal_)
   (first
    | (go_at_call 58; (first | (with_reducible refine (L1.out _).mono ?_) | (with_reducible refine (L3.out _).mono ?_)); rintro e w2 ⟨rfl, hc2⟩; (try replace vv1 := vv1.below hc2); (try replace vv2 := vv2.below hc2); (try replace vv3 := vv3.below hc2); replace hs := boxT_keep hs hc2; replace HR := hid (HR.out.below hc2); replace Hc := hid (from_ Hc.out hc2))
    | (go_at_call 59; (first | (with_reducible refine (L2.out _).mono ?_) | (with_reducible refine (L4.out _).mono ?_)); rintro e w2 ⟨rfl, hc2⟩; (try replace vv1 := vv1.below hc2); (try replace vv2 := vv2.below hc2); (try replace vv3 := vv3.below hc2); replace hs := boxT_keep hs hc2; replace HR := hid (HR.out.below hc2); replace Hc := hid (from_ Hc.out hc2))
    | ((first | go_at_call 98 | go_at_call 92 | go_at_call 99); with_reducible refine (T1.out _ Hc.out).mono ?_; rintro e w2 ⟨D1, d1, rfl, vv1, hc2⟩; replace hs := boxT_keep hs hc2; replace HR := hid (HR.out.below hc2); replace Hc := hid (from_ Hc.out hc2))
    | ((first | go_at_call 98 | go_at_call 92 | go_at_call 99); with_reducible refine (T2.out _ Hc.out).mono ?_; rintro e w2 ⟨D2, d2, rfl, vv2, hc2⟩; (try replace vv1 := vv1.below hc2); replace hs := boxT_keep hs hc2; replace HR := hid (HR.out.below hc2); replace Hc := hid (from_ Hc.out hc2))
    | ((first | go_at_call 98 | go_at_call 92 | go_at_call 99); with_reducible refine (T3.out _ Hc.out).mono ?_; rintro e w2 ⟨D3, d3, rfl, vv3, hc2⟩; (try replace vv1 := vv1.below hc2); (try replace vv2 := vv2.below hc2); replace hs := boxT_keep hs hc2; replace HR := hid (HR.out.below hc2); replace Hc := hid (from_ Hc.out hc2))
    | ((first | go_at_call 98 | go_at_call 92 | go_at_call 99); with_reducible refine (T4.out _ Hc.out).mono ?_; rintro e w2 ⟨D4, d4, rfl, vv4, hc2⟩; (try replace vv1 := vv1.below hc2); (try replace vv2 := vv2.below hc2); (try replace vv3 := vv3.below hc2); replace hs := boxT_keep hs hc2; replace HR := hid (HR.out.below hc2); replace Hc := hid (from_ Hc.out hc2))
    | (go_at_call 100; with_reducible refine (COR.out _ _ _ _ _ _ _ _ _ _ _ _ _ _ vv1 vv2 vv3 vv4).mono ?_; rintro e w3 ⟨A1, c1, A2, c2, rfl, o1, o2, hc2⟩; replace hs := boxT_keep hs hc2; have zl := HR.out.lt; replace HR := hid (HR.out.below hc2); have Hp := Hc; replace Hc := hid (from_ Hc.out hc2); have g0 := HR.out.cf)) | fail
  all_goals
   obtain ⟨HP, U1, U2⟩ := hid3 (HR.out.put Hc.out N3.out (.bool rn0) (.bool rs0) (.slice A1 rl0.length c1) (.bool rn1) (.bool rs1) (.slice A2 rl1.length c2)) ((o1.set6 (g := gR) (fun (h : _ ≤ gR) => by omega) (.bool rn0) (.bool rs0) (.slice A1 rl0.length c1) (.bool rn1) (.bool rs1) (.slice A2 rl1.length c2)).mono (new_le Hp.out.size)) ((o2.set6 (g := gR) (fun (h : _ ≤ gR) => by omega) (.bool rn0) (.bool rs0) (.slice A1 rl0.length c1) (.bool rn1) (.bool rs1) (.slice A2 rl1.length c2)).mono (new_le Hp.out.size))
   clear o1 o2
   go_wp2
   refine bodyPost_ret (res_itv rfl _ gR rfl HP.out.box) rfl ?_
   exact ⟨_, _, _, _, rfl, U1.out, U2.out, HP.out.bel⟩
theorem iAdd_good 
  (u1 : U64s w Z1 A a l0) (u2 : U64s w Z2 B b l1) (u3 : U64s w Z3 C c k0) (u4 : U64s w Z4 D d k1) (h1 : okA n0 s0 l0 n1 s1 l1 = true) (h2 : okA m0 t0 k0 m1 t1 k1 = true)
  (q1 : l0.length ≤ 60) (q2 : l1.length ≤ 60) (q3 : k0.length ≤ 60) (q4 : k1.length ≤ 60)
  (hz0 : z0 = plusE bigZ (loV n0 s0 l0) (loV m0 t0 k0)) (hz1 : z1 = plusE bigZ (hiV n1 s1 l1) (hiV m1 t1 k1)) (gm : z0 < bigZ) (gM : -bigZ < z1) (e0 : EndL z0 rn0 rs0 rl0) (e1 : EndH z1 rn1 rs1 rl1) :
  Calls Tryz.prog 71 #[.agg #[.bool n0, .bool s0, .slice A l0.length a, .bool n1, .bool s1, .slice B l1.length b], .agg #[.bool m0, .bool t0, .slice C k0.length c, .bool m1, .bool t1, .slice D k1.length d]] w fun e w' => ∃ rA ra rB rb, e = .returned (.tuple #[.agg #[.bool rn0, .bool rs0, .slice rA rl0.length ra, .bool rn1, .bool rs1, .slice rB rl1.length rb], .int .i64 0]) ∧ U64s w' (new w.heap.size) rA ra rl0 ∧ U64s w' (new w.heap.size) rB rb rl1 ∧ Below w.heap.size w w' := by
 obtain ⟨bA, bB, bR, hB0⟩ := boxX w (.bool n0) (.bool s0) (.slice A l0.length a) (.bool n1) (.bool s1) (.slice B l1.length b) (.bool m0) (.bool t0) (.slice C k0.length c) (.bool m1) (.bool t1) (.slice D k1.length d) (.bool false) (.bool false) (.slice none 0 0) (.bool false) (.bool false) (.slice none 0 0) 29
 have hb1 := hB0.alloc hB0.size (.cells #[.bool n0, .bool s0, .slice A l0.length a, .bool n1, .bool s1, .slice B l1.length b, .bool m0, .bool t0, .slice C k0.length c, .bool m1, .bool t1, .slice D k1.length d] 29)
 have hg := given_twoA (p := ⟨n0, s0, l0, n1, s1, l1⟩) (q := ⟨m0, t0, k0, m1, t1, k1⟩) (ty := 29) (u1.below hB0) (u2.below hB0) (u3.below hB0) (u4.below hB0)
 rw [show (((w.alloc (.cells #[.bool n0, .bool s0, .slice A l0.length a, .bool n1, .bool s1, .slice B l1.length b] 29)).alloc (.cells #[.bool m0, .bool t0, .slice C k0.length c, .bool m1, .bool t1, .slice D k1.length d] 29)).alloc (.cells #[.bool false, .bool false, .slice none 0 0, .bool false, .bool false, .slice none 0 0] 29)).heap.size = w.heap.size + 3 by simp] at hg
 have hck := ichecked_any (n := 2) (c := 2) hg rfl (by simp) (by intro p hp; simp only [List.mem_cons, List.not_mem_nil, or_false] at hp; rcases hp with rfl | rfl <;> exact ⟨by dsimp only; omega, by dsimp only; omega⟩)
 rw [errAs_two, if_pos ⟨h1, h2⟩] at hck
 obtain ⟨HA, HBb, HR, Hck, Hb1⟩ := hid5 (bA.alloc (.cells #[.bool n0, .bool s0, .slice A l0.length a, .bool n1, .bool s1, .slice B l1.length b, .bool m0, .bool t0, .slice C k0.length c, .bool m1, .bool t1, .slice D k1.length d] 29)) (bB.alloc (.cells #[.bool n0, .bool s0, .slice A l0.length a, .bool n1, .bool s1, .slice B l1.length b, .bool m0, .bool t0, .slice C k0.length c, .bool m1, .bool t1, .slice D k1.length d] 29)) (bR.alloc (.cells #[.bool n0, .bool s0, .slice A l0.length a, .bool n1, .bool s1, .slice B l1.length b, .bool m0, .bool t0, .slice C k0.length c, .bool m1, .bool t1, .slice D k1.length d] 29)) hck hb1
 have a0 := bA.all
 have b0 := bB.all
 obtain ⟨ea1, ea2⟩ := okA_ends h1
 obtain ⟨eb1, eb2⟩ := okA_ends h2
 obtain ⟨x1, xs1, xl1, xA1, xc1, P1⟩ := Plc.ex (-1) n0 s0 l0 A a
 obtain ⟨x2, xs2, xl2, xA2, xc2, P2⟩ := Plc.ex 1 n1 s1 l1 B b
 obtain ⟨x3, xs3, xl3, xA3, xc3, P3⟩ := Plc.ex (-1) m0 t0 k0 C c
 obtain ⟨x4, xs4, xl4, xA4, xc4, P4⟩ := Plc.ex 1 m1 t1 k1 D d
 have p1 := P1.lo ea1 u1.small (by omega)
 have p2 := P2.hi ea2 u2.small (by omega)
 have p3 := P3.lo eb1 u3.small (by omega)
 have p4 := P4.hi eb2 u4.small (by omega)
 have r1 := P1.len
 have r2 := P2.len
 have r3 := P3.len
 have r4 := P4.len
 have v1 := P1.u64s u1
 have v2 := P2.u64s u2
 have v3 := P3.u64s u3
 have v4 := P4.u64s u4
 have i1 := lo_range (n := n0) (s := s0) u1.small (by omega)
 have i2 := hi_range (n := n1) (s := s1) u2.small (by omega)
 have i3 := lo_range (n := m0) (s := t0) u3.small (by omega)
 have i4 := hi_range (n := m1) (s := t1) u4.small (by omega)
 obtain ⟨L1, L2, L3, L4⟩ := hid4 (fun (W : World) => ilow_p (w := W) (v3 := .bool n1) (v4 := .bool s1) (v5 := .slice B l1.length b) P1) (fun (W : World) => ihigh_p (w := W) (v3 := .bool n0) (v4 := .bool s0) (v5 := .slice A l0.length a) P2) (fun (W : World) => ilow_p (w := W) (v3 := .bool m1) (v4 := .bool t1) (v5 := .slice D k1.length d) P3) (fun (W : World) => ihigh_p (w := W) (v3 := .bool m0) (v4 := .bool t0) (v5 := .slice C k0.length c) P4)
 generalize loV n0 s0 l0 = X1 at *
 generalize hiV n1 s1 l1 = X2 at *
 generalize loV m0 t0 k0 = X3 at *
 generalize hiV m1 t1 k1 = X4 at *
 have xx1 : Ext bigZ (wN 61) z0 := by rw [hz0]; exact ext_plus (p1.ext (by omega)) (p3.ext (by omega))
 obtain ⟨y1, ys1, yl1, py1⟩ : ∃ b s l, Pl z0 b s l := ⟨_, _, _, Pl.all (xx1.range (by omega))⟩
 have yn1 := py1.len_of xx1
 obtain ⟨eq1, er1, es1⟩ := e0
 obtain rfl : ys1 = rs0 := py1.uniq.2.1.trans er1.symm
 obtain rfl : yl1 = rl0 := py1.uniq.2.2.trans es1.symm
 have PL1 : Hid (∀ W, Below w.heap.size w W → Calls Tryz.prog 95 #[.agg #[.int .i64 x1, .bool xs1, .slice xA1 xl1.length xc1], .agg #[.int .i64 x3, .bool xs3, .slice xA3 xl3.length xc3]] W fun e' w' => ∃ A' c', e' = .returned (.agg #[.int .i64 y1, .bool ys1, .slice A' yl1.length c']) ∧ U64s w' (new W.heap.size) A' c' yl1 ∧ Below W.heap.size W w') := fun W g => iplus_p p1 p3 py1 hz0.symm ⟨by omega, by omega⟩ (v1.below g) (v3.below g) (by omega) (by omega)
 have BD1 : Hid (∀ W Y D d, U64s W Y D d yl1 → Calls Tryz.prog 82 #[.agg #[.int .i64 y1, .bool ys1, .slice D yl1.length d]] W fun e' w' => ∃ A' c', e' = .returned (.agg #[.bool rn0, .bool ys1, .slice A' yl1.length c']) ∧ U64s w' (new W.heap.size) A' c' yl1 ∧ Below W.heap.size W w') := fun W Y D d g => ibound_p py1 ((py1.nlo gm).trans eq1.symm) g (by omega)
 have xx2 : Ext bigZ (wN 61) z1 := by rw [hz1]; exact ext_plus (p2.ext (by omega)) (p4.ext (by omega))
 obtain ⟨y2, ys2, yl2, py2⟩ : ∃ b s l, Pl z1 b s l := ⟨_, _, _, Pl.all (xx2.range (by omega))⟩
 have yn2 := py2.len_of xx2
 obtain ⟨eq2, er2, es2⟩ := e1
 obtain rfl : ys2 = rs1 := py2.uniq.2.1.trans er2.symm
 obtain rfl : yl2 = rl1 := py2.uniq.2.2.trans es2.symm
 have PL2 : Hid (∀ W, Below w.heap.size w W → Calls Tryz.prog 95 #[.agg #[.int .i64 x2, .bool xs2, .slice xA2 xl2.length xc2], .agg #[.int .i64 x4, .bool xs4, .slice xA4 xl4.length xc4]] W fun e' w' => ∃ A' c', e' = .returned (.agg #[.int .i64 y2, .bool ys2, .slice A' yl2.length c']) ∧ U64s w' (new W.heap.size) A' c' yl2 ∧ Below W.heap.size W w') := fun W g => iplus_p p2 p4 py2 hz1.symm ⟨by omega, by omega⟩ (v2.below g) (v4.below g) (by omega) (by omega)
 have BD2 : Hid (∀ W Y D d, U64s W Y D d yl2 → Calls Tryz.prog 82 #[.agg #[.int .i64 y2, .bool ys2, .slice D yl2.length d]] W fun e' w' => ∃ A' c', e' = .returned (.agg #[.bool rn1, .bool ys2, .slice A' yl2.length c']) ∧ U64s w' (new W.heap.size) A' c' yl2 ∧ Below W.heap.size W w') := fun W Y D d g => ibound_p py2 ((py2.nhi gM).trans eq2.symm) g (by omega)
 clear hck hb1 hg bR hB0 hz0 hz1 gm gM
 clear xx1 py1 yn1 eq1 er1 es1 xx2 py2 yn2 eq2 er2 es2
 clear u1 u2 u3 u4 ea1 ea2 eb1 eb2 P1 P2 P3 P4 p1 p2 p3 p4 r1 r2 r3 r4 v1 v2 v3 v4 i1 i2 i3 i4 q1 q2 q3 q4 h1 h2
 go_enter Tryz.func71, Tryz.ntmps71
 go_wp2_with fail
 refine Hck.out.mono ?_
 rintro e w1 ⟨rfl, hc⟩
 have H1 := hid (from_ Hb1.out hc)
 clear a0 b0
 have hs := boxT_of (HA.out.below hc) (HBb.out.below hc)
 replace hs := boxT_keep hs bdr_
 have Hc := hid H1.out.drew
 obtain ⟨gR, hgR⟩ : ∃ gR, gR = w.heap.size + 2 := ⟨_, rfl⟩
 replace HR := hid ((HR.out.below hc).below bdr_)
 rw [← hgR] at HR
 clear hc H1 Hb1 HA HBb Hck
 go_upto_region 4 with fail
 simp only [show w.heap.size + 2 = gR from hgR.symm, show w.heap.size + 1 + 1 = gR from hgR.symm]
 have n1 : gR ≠ w.heap.size := by omega
 have n2 : gR ≠ w.heap.size + 1 := by omega
 have n3 : w.heap.size ≤ gR := by omega
 obtain ⟨N1, N2, N3⟩ := hid3 n1 n2 n3
 clear hgR n1 n2 n3
 first | go_region_held3 (fun w' => D6 w' w.heap.size (.bool n0) (.bool s0) (.slice A l0.length a) (.bool n1) (.bool s1) (.slice B l1.length b) (C6 w' (w.heap.size + 1) (.bool m0) (.bool t0) (.slice C k0.length c) (.bool m1) (.bool t1) (.slice D k1.length d)))
  (first
   | with_reducible exact hs
   | with_reducible exact boxT_st6 N1.out N2.out hs
   | exact boxT_keep hs bal_)
  (first
   | (go_at_call 58; (first | (with_reducible refine (L1.out _).mono ?_) | (with_reducible refine (L3.out _).mono ?_)); rintro e w2 ⟨rfl, hc2⟩; (try replace vv1 := vv1.below hc2); (try replace vv2 := vv2.below hc2); (try replace o1 := o1.below hc2); replace hs := boxT_keep hs hc2; replace HR := hid (HR.out.below hc2); replace Hc := hid (from_ Hc.out hc2))
   | (go_at_call 59; (first | (with_reducible refine (L2.out _).mono ?_) | (with_reducible refine (L4.out _).mono ?_)); rintro e w2 ⟨rfl, hc2⟩; (try replace vv1 := vv1.below hc2); (try replace vv2 := vv2.below hc2); (try replace o1 := o1.below hc2); replace hs := boxT_keep hs hc2; replace HR := hid (HR.out.below hc2); replace Hc := hid (from_ Hc.out hc2))
   | (go_at_call 95; with_reducible refine (PL1.out _ Hc.out).mono ?_; rintro e w2 ⟨D1, d1, rfl, vv1, hc2⟩; replace hs := boxT_keep hs hc2; replace HR := hid (HR.out.below hc2); replace Hc := hid (from_ Hc.out hc2))
   | (go_at_call 82; with_reducible refine (BD1.out _ _ _ _ vv1).mono ?_; rintro e w2 ⟨A1, c1, rfl, o1, hc2⟩; replace o1 := o1.mono (Y := new (gR + 1)) (new_le (Nat.succ_le_of_lt HR.out.lt)); replace hs := boxT_keep hs hc2; replace HR := hid (HR.out.below hc2); replace Hc := hid (from_ Hc.out hc2))
   | (go_at_call 95; with_reducible refine (PL2.out _ Hc.out).mono ?_; rintro e w2 ⟨D2, d2, rfl, vv2, hc2⟩; (try replace o1 := o1.below hc2); replace hs := boxT_keep hs hc2; replace HR := hid (HR.out.below hc2); replace Hc := hid (from_ Hc.out hc2))
   | (go_at_call 82; with_reducible refine (BD2.out _ _ _ _ vv2).mono ?_; rintro e w2 ⟨A2, c2, rfl, o2, hc2⟩; replace o2 := o2.mono (Y := new (gR + 1)) (new_le (Nat.succ_le_of_lt HR.out.lt)); (try replace o1 := o1.below hc2); replace hs := boxT_keep hs hc2; replace HR := hid (HR.out.below hc2); replace Hc := hid (from_ Hc.out hc2); have g0 := HR.out.cf)) | fail
 all_goals
  obtain ⟨HP, U1, U2⟩ := hid3 (HR.out.put Hc.out N3.out (.bool rn0) (.bool ys1) (.slice A1 yl1.length c1) (.bool rn1) (.bool ys2) (.slice A2 yl2.length c2)) ((o1.set6 (g := gR) (fun (h : gR + 1 ≤ gR) => by omega) (.bool rn0) (.bool ys1) (.slice A1 yl1.length c1) (.bool rn1) (.bool ys2) (.slice A2 yl2.length c2)).mono (new_le (show w.heap.size ≤ gR + 1 from Nat.le_succ_of_le N3.out))) ((o2.set6 (g := gR) (fun (h : gR + 1 ≤ gR) => by omega) (.bool rn0) (.bool ys1) (.slice A1 yl1.length c1) (.bool rn1) (.bool ys2) (.slice A2 yl2.length c2)).mono (new_le (show w.heap.size ≤ gR + 1 from Nat.le_succ_of_le N3.out)))
  clear o1 o2
  go_wp2
  refine bodyPost_ret (res_itv2 rfl _ gR rfl HP.out.box) rfl ?_
  exact ⟨_, _, _, _, rfl, U1.out, U2.out, HP.out.bel⟩
theorem box6_keep (hs : C6 W g a0 a1 a2 a3 a4 a5) (hb : Below W.heap.size W W') :
  C6 W' g a0 a1 a2 a3 a4 a5 := by
 obtain ⟨h0, h1, h2, h3, h4, h5⟩ := hs
 exact ⟨keepC hb h0, keepC hb h1, keepC hb h2, keepC hb h3, keepC hb h4, keepC hb h5⟩
theorem box6_st6 {r : Nat} {x0 x1 x2 x3 x4 x5 : Value} (hg : r ≠ g)
  (hs : C6 W g a0 a1 a2 a3 a4 a5) :
  let V := ((((((W.setCell ⟨r, 0, none⟩ x0).setCell ⟨r, 1, none⟩ x1).setCell ⟨r, 2, none⟩ x2).setCell ⟨r, 3, none⟩ x3).setCell ⟨r, 4, none⟩ x4).setCell ⟨r, 5, none⟩ x5)
  C6 V g a0 a1 a2 a3 a4 a5 := by
 obtain ⟨h0, h1, h2, h3, h4, h5⟩ := hs
 exact ⟨st6 h0 hg, st6 h1 hg, st6 h2 hg, st6 h3 hg, st6 h4 hg, st6 h5 hg⟩
theorem iMeet_good 
  (u1 : U64s w Z1 A a l0) (u2 : U64s w Z2 B b l1) (u3 : U64s w Z3 C c k0) (u4 : U64s w Z4 D d k1) (h1 : okA n0 s0 l0 n1 s1 l1 = true) (h2 : okA m0 t0 k0 m1 t1 k1 = true)
  (q1 : l0.length ≤ 60) (q2 : l1.length ≤ 60) (q3 : k0.length ≤ 60) (q4 : k1.length ≤ 60)
  (hz0 : z0 = max (loV n0 s0 l0) (loV m0 t0 k0)) (hz1 : z1 = min (hiV n1 s1 l1) (hiV m1 t1 k1)) (e0 : EndL z0 rn0 rs0 rl0) (e1 : EndH z1 rn1 rs1 rl1) (hg : z0 ≤ z1) :
  Calls Tryz.prog 19 #[.agg #[.bool n0, .bool s0, .slice A l0.length a, .bool n1, .bool s1, .slice B l1.length b], .agg #[.bool m0, .bool t0, .slice C k0.length c, .bool m1, .bool t1, .slice D k1.length d]] w fun e w' => ∃ rA ra rB rb, e = .returned (.tuple #[.agg #[.bool rn0, .bool rs0, .slice rA rl0.length ra, .bool rn1, .bool rs1, .slice rB rl1.length rb], .int .i64 0]) ∧ U64s w' (new w.heap.size) rA ra rl0 ∧ U64s w' (new w.heap.size) rB rb rl1 ∧ Below w.heap.size w w' := by
 obtain ⟨bA, bB, bR, hB0⟩ := boxX w (.bool n0) (.bool s0) (.slice A l0.length a) (.bool n1) (.bool s1) (.slice B l1.length b) (.bool m0) (.bool t0) (.slice C k0.length c) (.bool m1) (.bool t1) (.slice D k1.length d) (.bool false) (.bool false) (.slice none 0 0) (.bool false) (.bool false) (.slice none 0 0) 29
 have hb1 := hB0.alloc hB0.size (.cells #[.bool n0, .bool s0, .slice A l0.length a, .bool n1, .bool s1, .slice B l1.length b, .bool m0, .bool t0, .slice C k0.length c, .bool m1, .bool t1, .slice D k1.length d] 29)
 have hgv := given_twoA (p := ⟨n0, s0, l0, n1, s1, l1⟩) (q := ⟨m0, t0, k0, m1, t1, k1⟩) (ty := 29) (u1.below hB0) (u2.below hB0) (u3.below hB0) (u4.below hB0)
 rw [show (((w.alloc (.cells #[.bool n0, .bool s0, .slice A l0.length a, .bool n1, .bool s1, .slice B l1.length b] 29)).alloc (.cells #[.bool m0, .bool t0, .slice C k0.length c, .bool m1, .bool t1, .slice D k1.length d] 29)).alloc (.cells #[.bool false, .bool false, .slice none 0 0, .bool false, .bool false, .slice none 0 0] 29)).heap.size = w.heap.size + 3 by simp] at hgv
 have hck := ichecked_any (n := 2) (c := 2) hgv rfl (by simp) (by intro p hp; simp only [List.mem_cons, List.not_mem_nil, or_false] at hp; rcases hp with rfl | rfl <;> exact ⟨by dsimp only; omega, by dsimp only; omega⟩)
 rw [errAs_two, if_pos ⟨h1, h2⟩] at hck
 obtain ⟨HA, HBb, HR, Hck, Hb1⟩ := hid5 (bA.alloc (.cells #[.bool n0, .bool s0, .slice A l0.length a, .bool n1, .bool s1, .slice B l1.length b, .bool m0, .bool t0, .slice C k0.length c, .bool m1, .bool t1, .slice D k1.length d] 29)) (bB.alloc (.cells #[.bool n0, .bool s0, .slice A l0.length a, .bool n1, .bool s1, .slice B l1.length b, .bool m0, .bool t0, .slice C k0.length c, .bool m1, .bool t1, .slice D k1.length d] 29)) (bR.alloc (.cells #[.bool n0, .bool s0, .slice A l0.length a, .bool n1, .bool s1, .slice B l1.length b, .bool m0, .bool t0, .slice C k0.length c, .bool m1, .bool t1, .slice D k1.length d] 29)) hck hb1
 obtain ⟨a0, a1, a2, a3, a4, a5, _, _, _, _, _, _, _⟩ := bA
 obtain ⟨b0, b1, b2, b3, b4, b5, _, _, _, _, _, _, _⟩ := bB
 have J := hid (fun (W : World) (h : Below w.heap.size w W) => imeet_p (u1.below h) (u2.below h) (u3.below h) (u4.below h) h1 h2 q1 q2 q3 q4 hz0 hz1 e0 e1 (g := true) (decide_eq_true hg))
 clear hck hb1 hgv u1 u2 u3 u4 h1 h2 q1 q2 q3 q4 hz0 hz1 e0 e1 hg bR hB0
 go_enter Tryz.func19, Tryz.ntmps19
 go_wp2_with fail
 refine Hck.out.mono ?_
 rintro e w1 ⟨rfl, hc⟩
 obtain ⟨H1, R1⟩ := hid2 (from_ Hb1.out hc) (HR.out.below hc)
 clear a0 a1 a2 a3 a4 a5 b0 b1 b2 b3 b4 b5
 have a0 := (HA.out.below hc).all
 have b0 := (HBb.out.below hc).all
 clear hc
 go_wp2_with fail
 refine (J.out _ H1.out).mono ?_
 rintro e w2 ⟨hx, hy, hc⟩
 obtain ⟨A1, c1, A2, c2, rfl, o1, o2⟩ := hx (by first | rfl | trivial)
 clear hy
 have z1 := R1.out.lt
 have hax := (Below.refl w2.heap.size w2).alloc (Nat.le_refl _) (.cells #[.bool rn0, .bool rs0, .slice A1 rl0.length c1, .bool rn1, .bool rs1, .slice A2 rl1.length c2] 29)
 have R2 := (R1.out.below hc).below hax
 obtain ⟨HP, U1, U2⟩ := hid3 (R2.put (from_ (from_ H1.out hc) hax) (by omega) (.bool rn0) (.bool rs0) (.slice A1 rl0.length c1) (.bool rn1) (.bool rs1) (.slice A2 rl1.length c2)) (((o1.below hax).set6 (g := w.heap.size + 2) (fun (h : w1.heap.size ≤ w.heap.size + 2) => by omega) (.bool rn0) (.bool rs0) (.slice A1 rl0.length c1) (.bool rn1) (.bool rs1) (.slice A2 rl1.length c2)).mono (new_le H1.out.size)) (((o2.below hax).set6 (g := w.heap.size + 2) (fun (h : w1.heap.size ≤ w.heap.size + 2) => by omega) (.bool rn0) (.bool rs0) (.slice A1 rl0.length c1) (.bool rn1) (.bool rs1) (.slice A2 rl1.length c2)).mono (new_le H1.out.size))
 obtain ⟨m0', m1', m2', m3', m4', m5', _, _, _, _, _, _, _⟩ := Box6.new w2 (.bool rn0) (.bool rs0) (.slice A1 rl0.length c1) (.bool rn1) (.bool rs1) (.slice A2 rl1.length c2) 29
 have g0 := R2.cf
 clear o1 o2 hc z1 hax a0 b0
 go_wp2
 refine bodyPost_ret (res_itv2 rfl _ (w.heap.size + 2) rfl HP.out.box) rfl ?_
 exact ⟨_, _, _, _, rfl, U1.out, U2.out, HP.out.bel⟩
theorem ext_over (hx : Ext bigZ (wN N) x) : Ext bigZ (wN N) (overE bigZ x y) := by
 have h3 := wN_pos N
 unfold overE
 split
 · exact .inr (.inr (by omega))
 · split
   · split
     · exact .inl rfl
     · exact .inr (.inl rfl)
   · exact .inr (.inr (tdiv_bd (by unfold Ext at hx; omega)))
def divLo (x y z t : Int) : Int := lo4 (overE bigZ x z) (overE bigZ x t) (overE bigZ y z) (overE bigZ y t)
def divHi (x y z t : Int) : Int := hi4 (overE bigZ x z) (overE bigZ x t) (overE bigZ y z) (overE bigZ y t)
theorem over_lt (hx : Ext bigZ (wN N) x) (hN : N ≤ 60) (hy : y ≠ 0) (h : x < bigZ ∧ 0 < y ∨ -bigZ < x ∧ y < 0) : overE bigZ x y < bigZ := by
 have h3 := bigZ_pos
 have h4 := wN_le (show N ≤ 64 by omega)
 unfold overE
 split
 · omega
 · split
   · rw [if_neg (by omega)]; omega
   · have := tdiv_bd (x := x) (y := y) (M := wN N) (by unfold Ext at hx; omega)
     omega
theorem over_gt (hx : Ext bigZ (wN N) x) (hN : N ≤ 60) (hy : y ≠ 0) (h : x < bigZ ∧ y < 0 ∨ -bigZ < x ∧ 0 < y) : -bigZ < overE bigZ x y := by
 have h3 := bigZ_pos
 have h4 := wN_le (show N ≤ 64 by omega)
 unfold overE
 split
 · omega
 · split
   · rw [if_pos (by omega)]; omega
   · have := tdiv_bd (x := x) (y := y) (M := wN N) (by unfold Ext at hx; omega)
     omega
theorem ivn_over {t : Int} (h : IvN N x y) (g : IvN M z t) (h0 : 0 < z ∨ t < 0) (hN : N ≤ 60) : IvN N (divLo x y z t) (divHi x y z t) := by
 obtain ⟨a1, a2, a3, a4, a5⟩ := h
 have b3 := g.le
 refine ⟨?_, ?_, ?_, ?_, ?_⟩
 · exact ext_min (ext_min (ext_over a1) (ext_over a1)) (ext_min (ext_over a2) (ext_over a2))
 · exact ext_max (ext_max (ext_over a1) (ext_over a1)) (ext_max (ext_over a2) (ext_over a2))
 · unfold divLo divHi lo4 hi4; omega
 · unfold divLo lo4
   rcases h0 with h0 | h0
   · have := over_lt (y := z) a1 hN (by omega) (.inl ⟨a4, h0⟩)
     omega
   · have := over_lt (y := t) a2 hN (by omega) (.inr ⟨a5, h0⟩)
     omega
 · unfold divHi hi4
   rcases h0 with h0 | h0
   · have := over_gt (y := z) a2 hN (by omega) (.inr ⟨a5, h0⟩)
     omega
   · have := over_gt (y := t) a1 hN (by omega) (.inl ⟨a4, h0⟩)
     omega
def partsP (P : Int × Int) : List (Int × Int) := (if P.1 ≤ -1 then [(P.1, min P.2 (-1))] else []) ++ (if 1 ≤ P.2 then [(max P.1 1, P.2)] else [])
theorem parts_ok {P : Int × Int} (h : IvN N P.1 P.2) (hN : 1 ≤ N) : ∀ Q ∈ partsP P, IvN N Q.1 Q.2 ∧ (0 < Q.1 ∨ Q.2 < 0) := fun Q hQ => by
 obtain ⟨a1, a2, a3, a4, a5⟩ := h
 have h3 := bigZ_pos
 have h4 : (1 : Int) < wN N := by
  have := wN_mono hN
  have e : wN 1 = 18446744073709551616 := rfl
  omega
 have h5 : (1 : Int) < bigZ := by
  have := wN_le (show 1 ≤ 64 by omega)
  have e : wN 1 = 18446744073709551616 := rfl
  omega
 have c1 : Ext bigZ (wN N) (-1) := .inr (.inr (by omega))
 have c2 : Ext bigZ (wN N) 1 := .inr (.inr (by omega))
 unfold partsP at hQ
 rw [List.mem_append] at hQ
 rcases hQ with hQ | hQ
 · split at hQ
   · rw [List.mem_singleton] at hQ
     subst hQ
     exact ⟨⟨a1, ext_min a2 c1, by dsimp only; omega, by dsimp only; omega, by dsimp only; omega⟩, .inr (by dsimp only; omega)⟩
   · cases hQ
 · split at hQ
   · rw [List.mem_singleton] at hQ
     subst hQ
     exact ⟨⟨ext_max a1 c2, a2, by dsimp only; omega, by dsimp only; omega, by dsimp only; omega⟩, .inl (by dsimp only; omega)⟩
   · cases hQ
def ivJ (p q : Int × Int) : Int × Int := (min p.1 q.1, max p.2 q.2)
theorem ivJ_ok {p q : Int × Int} (h : IvN N p.1 p.2) (g : IvN N q.1 q.2) : IvN N (ivJ p q).1 (ivJ p q).2 := by
 obtain ⟨a1, a2, a3, a4, a5⟩ := h
 obtain ⟨b1, b2, b3, b4, b5⟩ := g
 exact ⟨ext_min a1 b1, ext_max a2 b2, by dsimp only [ivJ]; omega, by dsimp only [ivJ]; omega, by dsimp only [ivJ]; omega⟩
def ivD1 (A Q : Int × Int) : Int × Int := (divLo A.1 A.2 Q.1 Q.2, divHi A.1 A.2 Q.1 Q.2)
def ivD (A B : Int × Int) : Int × Int := match partsP B with
 | [] => (0, 0)
 | Q :: t => t.foldl (fun o q => ivJ o (ivD1 A q)) (ivD1 A Q)
abbrev IvP := Int × Int
variable {P Q : IvP}
def ivA (p q : IvP) : IvP := (plusE bigZ p.1 q.1, plusE bigZ p.2 q.2)
theorem ivA_ok {p q : IvP} (h : IvN N p.1 p.2) (g : IvN N q.1 q.2) (hN : N ≤ 60) : IvN (N + 1) (ivA p q).1 (ivA p q).2 := ivn_plus h g hN
def IvW (P : IvP) (q : Iv) : Prop := EndL P.1 q.n0 q.s0 q.l0 ∧ EndH P.2 q.n1 q.s1 q.l1
theorem IvW.mk (P : IvP) : IvW P (ivOf P.1 P.2) := ⟨⟨rfl, rfl, rfl⟩, rfl, rfl, rfl⟩
theorem IvW.uniq {p : Iv} (h : IvW P p) (g : IvW P q) : p = q := by
 obtain ⟨⟨a1, a2, a3⟩, a4, a5, a6⟩ := h
 obtain ⟨⟨b1, b2, b3⟩, b4, b5, b6⟩ := g
 cases p
 cases q
 simp only at *
 subst a1 a2 a3 a4 a5 a6 b1 b2 b3 b4 b5 b6
 rfl
theorem lo_e (h : -bigZ ≤ x ∧ x < bigZ) : loV (nLo x) (sE x) (lE x) = x ∧ okE (nLo x) (sE x) (lE x) = true := by
 have h0 := bigZ_pos
 by_cases hx : x = -bigZ
 · have e1 : nLo x = true := decide_eq_true hx
   have e2 : sE x = false := decide_eq_false (by omega)
   have e3 : lE x = [] := by unfold lE; rw [if_neg (by omega)]
   rw [e1, e2, e3]
   exact ⟨hx.symm, rfl⟩
 · have e1 : nLo x = false := decide_eq_false hx
   have e2 := nm_e (n := x) ⟨by omega, h.2⟩
   rw [e1, e2.1, e2.2]
   exact ⟨zof_z x, IsZ.ok x⟩
theorem hi_e (h : -bigZ < x ∧ x ≤ bigZ) : hiV (nHi x) (sE x) (lE x) = x ∧ okE (nHi x) (sE x) (lE x) = true := by
 have h0 := bigZ_pos
 by_cases hx : x = bigZ
 · have e1 : nHi x = true := decide_eq_true hx
   have e2 : sE x = false := decide_eq_false (by omega)
   have e3 : lE x = [] := by unfold lE; rw [if_neg (by omega)]
   rw [e1, e2, e3]
   exact ⟨hx.symm, rfl⟩
 · have e1 : nHi x = false := decide_eq_false hx
   have e2 := nm_e (n := x) ⟨h.1, by omega⟩
   rw [e1, e2.1, e2.2]
   exact ⟨zof_z x, IsZ.ok x⟩
structure IvK (N : Nat) (P : IvP) (p : Iv) : Prop where
 ok : okA p.n0 p.s0 p.l0 p.n1 p.s1 p.l1 = true
 lo : loV p.n0 p.s0 p.l0 = P.1
 hi : hiV p.n1 p.s1 p.l1 = P.2
 q0 : p.l0.length ≤ N
 q1 : p.l1.length ≤ N
theorem IvW.k {p : Iv} (h : IvW P p) (g : IvN N P.1 P.2) (hN : N ≤ 64) : IvK N P p := by
 obtain ⟨⟨a1, a2, a3⟩, a4, a5, a6⟩ := h
 have r1 := g.lo.range hN
 have r2 := g.hi.range hN
 have e1 := lo_e ⟨r1.1, g.nlo⟩
 have e2 := hi_e ⟨g.nhi, r2.2⟩
 rw [← a1, ← a2, ← a3] at e1
 rw [← a4, ← a5, ← a6] at e2
 have p1 : Pl P.1 (bE P.1) p.s0 p.l0 := by rw [a2, a3]; exact Pl.all r1
 have p2 : Pl P.2 (bE P.2) p.s1 p.l1 := by rw [a5, a6]; exact Pl.all r2
 refine ⟨?_, e1.1, e2.1, p1.len_of g.lo, p2.len_of g.hi⟩
 unfold okA
 rw [e1.2, e2.2]
 have h1 := e1.1
 have h2 := e2.1
 have h3 := g.le
 unfold loV at h1
 unfold hiV at h2
 cases hn0 : p.n0
 · cases hn1 : p.n1
   · rw [hn0] at h1
     rw [hn1] at h2
     have : zof p.s0 p.l0 ≤ zof p.s1 p.l1 := by
      have h1' : zof p.s0 p.l0 = P.1 := h1
      have h2' : zof p.s1 p.l1 = P.2 := h2
      omega
     simp [this]
   · rfl
 · rfl
theorem IvW.okP {p : Iv} (h : IvW P p) (g : IvN N P.1 P.2) (hN : N ≤ 64) : p.ok = true := (h.k g hN).ok
theorem iadd_w {p r : Iv} (hp : IvW P p) (hq : IvW Q q) (hr : IvW (ivA P Q) r) (gp : IvN N P.1 P.2) (gq : IvN N Q.1 Q.2) (hN : N ≤ 59) (u1 : U64s w Z1 A a p.l0) (u2 : U64s w Z2 B b p.l1) (u3 : U64s w Z3 C c q.l0) (u4 : U64s w Z4 D d q.l1) :
  Calls Tryz.prog 71 #[.agg #[.bool p.n0, .bool p.s0, .slice A p.l0.length a, .bool p.n1, .bool p.s1, .slice B p.l1.length b], .agg #[.bool q.n0, .bool q.s0, .slice C q.l0.length c, .bool q.n1, .bool q.s1, .slice D q.l1.length d]] w fun e w' => ∃ rA ra rB rb, e = .returned (.tuple #[.agg #[.bool r.n0, .bool r.s0, .slice rA r.l0.length ra, .bool r.n1, .bool r.s1, .slice rB r.l1.length rb], .int .i64 0]) ∧ U64s w' (new w.heap.size) rA ra r.l0 ∧ U64s w' (new w.heap.size) rB rb r.l1 ∧ Below w.heap.size w w' := by
 have kp := hp.k gp (by omega)
 have kq := hq.k gq (by omega)
 have g := ivA_ok gp gq (by omega)
 exact iAdd_good u1 u2 u3 u4 kp.ok kq.ok (by have := kp.q0; omega) (by have := kp.q1; omega) (by have := kq.q0; omega) (by have := kq.q1; omega) (by rw [kp.lo, kq.lo]; rfl) (by rw [kp.hi, kq.hi]; rfl) g.nlo g.nhi hr.1 hr.2
theorem ijoin_w {p : Iv} (hp : IvW P p) (gp : IvN N P.1 P.2) (hN : N ≤ 60) (u1 : U64s w Z1 A a p.l0) (u2 : U64s w Z2 B b p.l1) (u3 : U64s w Z3 C c p.l0) (u4 : U64s w Z4 D d p.l1) :
  Calls Tryz.prog 89 #[.agg #[.bool p.n0, .bool p.s0, .slice A p.l0.length a, .bool p.n1, .bool p.s1, .slice B p.l1.length b], .agg #[.bool p.n0, .bool p.s0, .slice C p.l0.length c, .bool p.n1, .bool p.s1, .slice D p.l1.length d]] w fun e w' => ∃ rA ra rB rb, e = .returned (.tuple #[.agg #[.bool p.n0, .bool p.s0, .slice rA p.l0.length ra, .bool p.n1, .bool p.s1, .slice rB p.l1.length rb], .int .i64 0]) ∧ U64s w' (new w.heap.size) rA ra p.l0 ∧ U64s w' (new w.heap.size) rB rb p.l1 ∧ Below w.heap.size w w' := by
 have kp := hp.k gp (by omega)
 exact iJoin_good u1 u2 u3 u4 kp.ok kp.ok (by have := kp.q0; omega) (by have := kp.q1; omega) (by have := kp.q0; omega) (by have := kp.q1; omega) (z0 := P.1) (z1 := P.2) (by rw [kp.lo]; omega) (by rw [kp.hi]; omega) hp.1 hp.2
theorem ladd1_w {p r : Iv} {o L : Nat} (hp : IvW P p) (hq : IvW Q q) (hr : IvW (ivA P Q) r) (gp : IvN 32 P.1 P.2) (gq : IvN 32 Q.1 Q.2)
  (hg : w.cell? ⟨g, 0, none⟩ = some (.slice (some ⟨h, o, none⟩) L M)) (hj : j < L) (hL : L ≤ 64) (hc : w.cell? ⟨h, o + j * 6, none⟩ = some (.bool q.n0) ∧ w.cell? ⟨h, o + j * 6 + 1, none⟩ = some (.bool q.s0) ∧ w.cell? ⟨h, o + j * 6 + 2, none⟩ = some (.slice C q.l0.length c) ∧ w.cell? ⟨h, o + j * 6 + 3, none⟩ = some (.bool q.n1) ∧ w.cell? ⟨h, o + j * 6 + 4, none⟩ = some (.bool q.s1) ∧ w.cell? ⟨h, o + j * 6 + 5, none⟩ = some (.slice D q.l1.length d))
  (u1 : U64s w Z1 A a p.l0) (u2 : U64s w Z2 B b p.l1) (u3 : U64s w Z3 C c q.l0) (u4 : U64s w Z4 D d q.l1) :
  Calls Tryz.prog 104 #[.int .i64 (j : Int), .agg #[.bool p.n0, .bool p.s0, .slice A p.l0.length a, .bool p.n1, .bool p.s1, .slice B p.l1.length b], .pointer (some ⟨g, 0, none⟩)] w fun e w' => ∃ rA ra rB rb, e = .returned (.tuple #[.agg #[.bool r.n0, .bool r.s0, .slice rA r.l0.length ra, .bool r.n1, .bool r.s1, .slice rB r.l1.length rb], .int .i64 0]) ∧ U64s w' (new w.heap.size) rA ra r.l0 ∧ U64s w' (new w.heap.size) rB rb r.l1 ∧ Below w.heap.size w w' := by
 obtain ⟨bA, bR, hB0⟩ := boxT w (.bool p.n0) (.bool p.s0) (.slice A p.l0.length a) (.bool p.n1) (.bool p.s1) (.slice B p.l1.length b) (.bool false) (.bool false) (.slice none 0 0) (.bool false) (.bool false) (.slice none 0 0) 29
 have hB1 := hB0.drew
 obtain ⟨MU, HR, Hb1⟩ := hid3 (iadd_w hp hq hr gp gq (by omega) (u1.below hB1) (u2.below hB1) (u3.below hB1) (u4.below hB1)) (bR.below bdr_) hB1
 have a0 := bA.all
 have HG := keepC hB0 hg
 obtain ⟨c0, c1, c2, c3, c4, c5⟩ := hc
 have q0 := keepC hB0 c0
 have q1 := keepC hB0 c1
 have q2 := keepC hB0 c2
 have q3 := keepC hB0 c3
 have q4 := keepC hB0 c4
 have q5 := keepC hB0 c5
 clear hp hq hr gp gq u1 u2 u3 u4 bR hB0 hB1 hg c0 c1 c2 c3 c4 c5
 generalize p.l0.length = pl0 at *
 generalize p.l1.length = pl1 at *
 generalize q.l0.length = ql0 at *
 generalize q.l1.length = ql1 at *
 go_enter Tryz.func104, Tryz.ntmps104
 go_upto_region 1 with fail
 go_region_with (first
  | (go_at_call 71; refine MU.out.mono ?_; rintro e' w1 ⟨A1, d1, A2, d2, rfl, o1, o2, hc⟩; have hz := HR.out.lt; have hR1 := HR.out.below hc; have HP := hid (hR1.put (from_ Hb1.out hc) (by omega) (.bool r.n0) (.bool r.s0) (.slice A1 r.l0.length d1) (.bool r.n1) (.bool r.s1) (.slice A2 r.l1.length d2)); have U1 := hid ((o1.set6 (g := w.heap.size + 1) (fun (h : _ ≤ w.heap.size + 1) => by omega) (.bool r.n0) (.bool r.s0) (.slice A1 r.l0.length d1) (.bool r.n1) (.bool r.s1) (.slice A2 r.l1.length d2)).mono (new_le Hb1.out.size)); have U2 := hid ((o2.set6 (g := w.heap.size + 1) (fun (h : _ ≤ w.heap.size + 1) => by omega) (.bool r.n0) (.bool r.s0) (.slice A1 r.l0.length d1) (.bool r.n1) (.bool r.s1) (.slice A2 r.l1.length d2)).mono (new_le Hb1.out.size)); clear o1 o2 hc hz; have g0 := hR1.cf)
  | fail)
 all_goals
  go_wp2
  refine bodyPost_ret (res_itv2 rfl _ (w.heap.size + 1) rfl HP.out.box) rfl ?_
  exact ⟨_, _, _, _, rfl, U1.out, U2.out, HP.out.bel⟩
theorem lpoint_w (hx : -9223372036854775808 ≤ x ∧ x ≤ 9223372036854775807) :
  Calls Tryz.prog 61 #[.int .i64 x] w fun e w' => ∃ A c B d, e = .returned (.agg #[.bool (nLo x), .bool (sE x), .slice A (lE x).length c, .bool (nHi x), .bool (sE x), .slice B (lE x).length d]) ∧ U64s w' (new w.heap.size) A c (lE x) ∧ U64s w' (new w.heap.size) B d (lE x) ∧ Below w.heap.size w w' := by
 have hB0 : Below w.heap.size w (w.alloc (.cells #[.bool false, .bool false, .slice none 0 0, .bool false, .bool false, .slice none 0 0] 29)) := (Below.refl _ w).alloc (Nat.le_refl _) _
 obtain ⟨HR, HO, Hb0⟩ := hid3 (Box6.new w (.bool false) (.bool false) (.slice none 0 0) (.bool false) (.bool false) (.slice none 0 0) 29) (iof_good (w := w.alloc (.cells #[.bool false, .bool false, .slice none 0 0, .bool false, .bool false, .slice none 0 0] 29)) hx hx (Int.le_refl x)) hB0
 clear hx hB0
 generalize nLo x = n0 at *
 generalize nHi x = n1 at *
 generalize lE x = l0 at *
 generalize sE x = s0 at *


 go_enter Tryz.func61, Tryz.ntmps61
 go_wp2_with fail
 refine HO.out.mono ?_
 rintro e w1 ⟨A1, c1, B1, d1, rfl, o1, o2, hc⟩
 have hax := (Below.refl w1.heap.size w1).alloc (Nat.le_refl _) (.cells #[.bool n0, .bool s0, .slice A1 l0.length c1, .bool n1, .bool s0, .slice B1 l0.length d1] 29)
 have R := (HR.out.below hc).below hax
 have hz := HR.out.lt
 obtain ⟨HP, U1, U2⟩ := hid3 (R.put (w := w) (from_ (from_ Hb0.out hc) hax) (Nat.le_refl _) (.bool n0) (.bool s0) (.slice A1 l0.length c1) (.bool n1) (.bool s0) (.slice B1 l0.length d1)) (((o1.below hax).set6 (g := w.heap.size) (fun (h : _ ≤ w.heap.size) => by omega) (.bool n0) (.bool s0) (.slice A1 l0.length c1) (.bool n1) (.bool s0) (.slice B1 l0.length d1)).mono (new_le Hb0.out.size)) (((o2.below hax).set6 (g := w.heap.size) (fun (h : _ ≤ w.heap.size) => by omega) (.bool n0) (.bool s0) (.slice A1 l0.length c1) (.bool n1) (.bool s0) (.slice B1 l0.length d1)).mono (new_le Hb0.out.size))
 obtain ⟨m0, m1, m2, m3, m4, m5, _, _, _, _, _, _, _⟩ := Box6.new w1 (.bool n0) (.bool s0) (.slice A1 l0.length c1) (.bool n1) (.bool s0) (.slice B1 l0.length d1) 29
 have g0 := R.cf
 clear o1 o2 hc hax hz
 go_wp2
 refine bodyPost_ret (res_itv rfl _ w.heap.size rfl HP.out.box) rfl ?_
 exact ⟨_, _, _, _, rfl, U1.out, U2.out, HP.out.bel⟩
theorem six_keep {o : Nat} (h : W.cell? ⟨b, o, none⟩ = some a0 ∧ W.cell? ⟨b, o + 1, none⟩ = some a1 ∧ W.cell? ⟨b, o + 2, none⟩ = some a2 ∧ W.cell? ⟨b, o + 3, none⟩ = some a3 ∧ W.cell? ⟨b, o + 4, none⟩ = some a4 ∧ W.cell? ⟨b, o + 5, none⟩ = some a5) (hb : Below W.heap.size W W') : W'.cell? ⟨b, o, none⟩ = some a0 ∧ W'.cell? ⟨b, o + 1, none⟩ = some a1 ∧ W'.cell? ⟨b, o + 2, none⟩ = some a2 ∧ W'.cell? ⟨b, o + 3, none⟩ = some a3 ∧ W'.cell? ⟨b, o + 4, none⟩ = some a4 ∧ W'.cell? ⟨b, o + 5, none⟩ = some a5 :=
 ⟨keepC hb h.1, keepC hb h.2.1, keepC hb h.2.2.1, keepC hb h.2.2.2.1, keepC hb h.2.2.2.2.1, keepC hb h.2.2.2.2.2⟩
theorem six_st6 {o r : Nat} {x0 x1 x2 x3 x4 x5 : Value} (hn : r ≠ b) (h : W.cell? ⟨b, o, none⟩ = some a0 ∧ W.cell? ⟨b, o + 1, none⟩ = some a1 ∧ W.cell? ⟨b, o + 2, none⟩ = some a2 ∧ W.cell? ⟨b, o + 3, none⟩ = some a3 ∧ W.cell? ⟨b, o + 4, none⟩ = some a4 ∧ W.cell? ⟨b, o + 5, none⟩ = some a5) :
 let V := ((((((W.setCell ⟨r, 0, none⟩ x0).setCell ⟨r, 1, none⟩ x1).setCell ⟨r, 2, none⟩ x2).setCell ⟨r, 3, none⟩ x3).setCell ⟨r, 4, none⟩ x4).setCell ⟨r, 5, none⟩ x5)
 V.cell? ⟨b, o, none⟩ = some a0 ∧ V.cell? ⟨b, o + 1, none⟩ = some a1 ∧ V.cell? ⟨b, o + 2, none⟩ = some a2 ∧ V.cell? ⟨b, o + 3, none⟩ = some a3 ∧ V.cell? ⟨b, o + 4, none⟩ = some a4 ∧ V.cell? ⟨b, o + 5, none⟩ = some a5 := ⟨st6 h.1 hn, st6 h.2.1 hn, st6 h.2.2.1 hn, st6 h.2.2.2.1 hn, st6 h.2.2.2.2.1 hn, st6 h.2.2.2.2.2 hn⟩
theorem six_keep0 (h : C6 W b a0 a1 a2 a3 a4 a5) (hb : Below W.heap.size W W') : C6 W' b a0 a1 a2 a3 a4 a5 :=
 ⟨keepC hb h.1, keepC hb h.2.1, keepC hb h.2.2.1, keepC hb h.2.2.2.1, keepC hb h.2.2.2.2.1, keepC hb h.2.2.2.2.2⟩
theorem infoIv : (Tryz.prog.info? 29).map (fun i => (i.zero, i.size, i.bytes)) = some (some (.agg #[.bool false, .bool false, .slice none 0 0, .bool false, .bool false, .slice none 0 0]), 6, 80) := by kernel_rfl
theorem c2_keep {a b : Value} (hs : W.cell? ⟨g, i, none⟩ = some a ∧ W.cell? ⟨g, j, none⟩ = some b) (hb : Below W.heap.size W V) : V.cell? ⟨g, i, none⟩ = some a ∧ V.cell? ⟨g, j, none⟩ = some b := ⟨keepC hb hs.1, keepC hb hs.2⟩
theorem c2_al {a b : Value} (e : V = W.alloc o) (hs : W.cell? ⟨g, i, none⟩ = some a ∧ W.cell? ⟨g, j, none⟩ = some b) : V.cell? ⟨g, i, none⟩ = some a ∧ V.cell? ⟨g, j, none⟩ = some b := by
 subst e
 exact c2_keep hs bal_
theorem c2_dr {a b : Value} (e : V = W.drew) (hs : W.cell? ⟨g, i, none⟩ = some a ∧ W.cell? ⟨g, j, none⟩ = some b) : V.cell? ⟨g, i, none⟩ = some a ∧ V.cell? ⟨g, j, none⟩ = some b := by
 subst e
 exact c2_keep hs bdr_
theorem c4_keep {k l : Nat} {a b c d : Value} (hs : (W.cell? ⟨g, i, none⟩ = some a ∧ W.cell? ⟨g, j, none⟩ = some b) ∧ W.cell? ⟨h, k, none⟩ = some c ∧ W.cell? ⟨h, l, none⟩ = some d) (hb : Below W.heap.size W V) : (V.cell? ⟨g, i, none⟩ = some a ∧ V.cell? ⟨g, j, none⟩ = some b) ∧ V.cell? ⟨h, k, none⟩ = some c ∧ V.cell? ⟨h, l, none⟩ = some d := ⟨c2_keep hs.1 hb, c2_keep hs.2 hb⟩
theorem c4_al {k l : Nat} {a b c d : Value} (e : V = W.alloc o) (hs : (W.cell? ⟨g, i, none⟩ = some a ∧ W.cell? ⟨g, j, none⟩ = some b) ∧ W.cell? ⟨h, k, none⟩ = some c ∧ W.cell? ⟨h, l, none⟩ = some d) : (V.cell? ⟨g, i, none⟩ = some a ∧ V.cell? ⟨g, j, none⟩ = some b) ∧ V.cell? ⟨h, k, none⟩ = some c ∧ V.cell? ⟨h, l, none⟩ = some d := ⟨c2_al e hs.1, c2_al e hs.2⟩
theorem c4_dr {k l : Nat} {a b c d : Value} (e : V = W.drew) (hs : (W.cell? ⟨g, i, none⟩ = some a ∧ W.cell? ⟨g, j, none⟩ = some b) ∧ W.cell? ⟨h, k, none⟩ = some c ∧ W.cell? ⟨h, l, none⟩ = some d) : (V.cell? ⟨g, i, none⟩ = some a ∧ V.cell? ⟨g, j, none⟩ = some b) ∧ V.cell? ⟨h, k, none⟩ = some c ∧ V.cell? ⟨h, l, none⟩ = some d := ⟨c2_dr e hs.1, c2_dr e hs.2⟩
theorem wfloor_m {l k : List Nat} (h1 : Nm x s l) (h2 : Nm y t k) (hy : y ≠ 0) (h3 : Nm (rq x y true) r m) (hl : l.length ≤ 10000000000) (u1 : U64s w Z1 A c l) (u2 : U64s w Z2 B d k) :
  Calls Tryz.prog 113 #[.agg #[.bool s, .slice A l.length c], .agg #[.bool t, .slice B k.length d]] w fun e w' => ∃ Av cv, e = .returned (.tuple #[.agg #[.bool r, .slice Av m.length cv], .int .i64 0]) ∧ U64s w' (new w.heap.size) Av cv m ∧ Below w.heap.size w w' := by
 refine (wfloor_z (h1.isZ u1) (h2.isZ u2) hy (by rw [← h1.len]; exact hl)).mono ?_
 rintro e w' ⟨v, rfl, hv, hb⟩
 obtain ⟨Av, cv, rfl, hu⟩ := h3.of hv
 exact ⟨Av, cv, rfl, hu, hb⟩
def fmOf (Ps : List IvP) : List Iv := Ps.map fun P => ivOf P.1 P.2
theorem fmOf_len (Ps : List IvP) : (fmOf Ps).length = Ps.length := List.length_map _
theorem fmOf_get {Ps : List IvP} (h : j < (fmOf Ps).length) (h' : j < Ps.length) : (fmOf Ps)[j] = ivOf Ps[j].1 Ps[j].2 := List.getElem_map _
theorem wceil_m {l k : List Nat} (h1 : Nm x s l) (h2 : Nm y t k) (hy : y ≠ 0) (h3 : Nm (rq x y false) r m) (hl : l.length ≤ 10000000000) (u1 : U64s w Z1 A c l) (u2 : U64s w Z2 B d k) :
  Calls Tryz.prog 112 #[.agg #[.bool s, .slice A l.length c], .agg #[.bool t, .slice B k.length d]] w fun e w' => ∃ Av cv, e = .returned (.tuple #[.agg #[.bool r, .slice Av m.length cv], .int .i64 0]) ∧ U64s w' (new w.heap.size) Av cv m ∧ Below w.heap.size w w' := by
 refine (wceil_z (h1.isZ u1) (h2.isZ u2) hy (by rw [← h1.len]; exact hl)).mono ?_
 rintro e w' ⟨v, rfl, hv, hb⟩
 obtain ⟨Av, cv, rfl, hu⟩ := h3.of hv
 exact ⟨Av, cv, rfl, hu, hb⟩
theorem tq_tdiv (x y : Int) : tq x y = Int.tdiv x y := by
 unfold tq
 cases x with
 | ofNat m =>
   cases y with
   | ofNat n => rfl
   | negSucc n => rw [if_neg (by simp)]; simp [Int.tdiv, Int.natAbs]
 | negSucc m =>
   cases y with
   | ofNat n => rw [if_neg (by simp)]; simp [Int.tdiv, Int.natAbs]
   | negSucc n => rw [if_pos (by simp)]; simp [Int.tdiv, Int.natAbs]
theorem rq_tq {d : Bool} (h : (x = 0 ∨ (decide (x < 0) != decide (y < 0)) = !d)) : rq x y d = Int.tdiv x y := by
 rw [← tq_tdiv]
 unfold rq
 rcases h with rfl | h
 · rw [if_neg]
   simp [limbs_eq_nil.2]
 · rw [h, if_neg]
   cases d <;> simp
theorem boxD_st3 {r : Nat} (e : V = (((W.setCell ⟨r, 0, none⟩ x0).setCell ⟨r, 1, none⟩ x1).setCell ⟨r, 2, none⟩ x2)) (hg : r ≠ g) (hh : r ≠ h)
  (hs : D3 W g a0 a1 a2 (C3 W h b0 b1 b2)) :
  D3 V g a0 a1 a2 (C3 V h b0 b1 b2) := by
 subst e
 exact ⟨st3 hs.1 hg, st3 hs.2.1 hg, st3 hs.2.2.1 hg, st3 hs.2.2.2.1 hh, st3 hs.2.2.2.2.1 hh, st3 hs.2.2.2.2.2 hh⟩
theorem iover_p {b d : Int} {l k : List Nat} {f : Nat} (h1 : Pl x b s l) (h2 : Pl y d t k) (h3 : Pl z e r m) (hz : overE bigZ x y = z) (hy0 : y ≠ 0) (hu : U64s w Z A c l) (hv : U64s w Y B f k) (hl : l.length ≤ 60) (hl2 : k.length ≤ 60) :
  Calls Tryz.prog 92 #[.agg #[.int .i64 b, .bool s, .slice A l.length c], .agg #[.int .i64 d, .bool t, .slice B k.length f]] w fun e' w' => ∃ A' c', e' = .returned (.agg #[.int .i64 e, .bool r, .slice A' m.length c']) ∧ U64s w' (new w.heap.size) A' c' m ∧ Below w.heap.size w w' := by
 have hbz := bigZ_pos
 have ex := h1.ext hl
 have ey := h2.ext hl2
 obtain ⟨bA, bB, bR, hB0⟩ := boxS w (.int .i64 b) (.bool s) (.slice A l.length c) (.int .i64 d) (.bool t) (.slice B k.length f) (.int .i64 0) (.bool false) (.slice none 0 0) 117
 obtain ⟨g, hg⟩ : ∃ g, sgn x = g := ⟨_, rfl⟩
 obtain ⟨h, hh⟩ : ∃ h, sgn y = h := ⟨_, rfl⟩
 obtain ⟨S1, S2⟩ := hid2 (fun (W : World) (q : Below w.heap.size w W) => isign_p h1 hg (hu.below q)) (fun (W : World) (q : Below w.heap.size w W) => isign_p h2 hh (hv.below q))
 have hg3 := sgn3 x
 have hh3 := sgn3 y
 rw [hg] at hg3
 rw [hh] at hh3
 obtain ⟨v, hv_⟩ : ∃ v, g * h = v := ⟨_, rfl⟩
 have hv3 : (v = 0 ∧ (x = 0 ∨ y = 0)) ∨ (v = 1 ∧ x ≠ 0 ∧ y ≠ 0 ∧ (0 < x ↔ 0 < y)) ∨ (v = -1 ∧ x ≠ 0 ∧ y ≠ 0 ∧ ¬ (0 < x ↔ 0 < y)) := by
  rw [← hv_]
  rcases hg3 with ⟨rfl, a⟩ | ⟨rfl, a⟩ | ⟨rfl, a⟩ <;> rcases hh3 with ⟨rfl, b⟩ | ⟨rfl, b⟩ | ⟨rfl, b⟩ <;> simp <;> omega
 obtain ⟨v2, hv2⟩ : ∃ u, (b != 0) = u := ⟨_, rfl⟩
 obtain ⟨v3, hv3'⟩ : ∃ u, (d != 0) = u := ⟨_, rfl⟩
 obtain ⟨v4, hv4⟩ : ∃ u, decide (v < 0) = u := ⟨_, rfl⟩
 have HD : (v3 = true ∧ e = 0 ∧ r = false ∧ m = []) ∨ (v3 = false ∧ v2 = true ∧ e = b * h ∧ r = false ∧ m = []) ∨ (v3 = false ∧ v2 = false ∧ e = 0 ∧ Nm x s l ∧ Nm y t k ∧ Nm (rq x y (!v4)) r m) := by
  by_cases hd : d = 0
  · obtain ⟨n2, r2⟩ : Nm y t k ∧ (-bigZ < y ∧ y < bigZ) := by rcases h2 with ⟨_, n, q⟩ | ⟨q, _⟩ | ⟨q, _⟩ <;> first | exact ⟨n, q⟩ | omega
    have hf : v3 = false := by rw [← hv3', hd]; rfl
    by_cases hb0 : b = 0
    · obtain ⟨n1, r1⟩ : Nm x s l ∧ (-bigZ < x ∧ x < bigZ) := by rcases h1 with ⟨_, n, q⟩ | ⟨q, _⟩ | ⟨q, _⟩ <;> first | exact ⟨n, q⟩ | omega
      have ez : Int.tdiv x y = z := by rw [← hz]; unfold overE; rw [if_neg (by omega), if_neg (by omega)]
      have hzb := tdiv_bd (y := y) r1
      rw [ez] at hzb
      obtain ⟨e0, n3⟩ := h3.fin hzb
      have er : rq x y (!v4) = z := by
       rw [← ez]
       refine rq_tq ?_
       by_cases hx0 : x = 0
       · exact .inl hx0
       · refine .inr ?_
         rw [← hv4]
         rcases hv3 with ⟨q, _⟩ | ⟨q, _, _, q3⟩ | ⟨q, _, _, q3⟩
         · omega
         · rw [q]; by_cases a : x < 0 <;> by_cases b : y < 0 <;> simp [a, b] <;> omega
         · rw [q]; by_cases a : x < 0 <;> by_cases b : y < 0 <;> simp [a, b] <;> omega
      exact .inr (.inr ⟨hf, by rw [← hv2, hb0]; rfl, e0, n1, n2, by rw [er]; exact n3⟩)
    · unfold overE at hz
      have ht : v2 = true := by rw [← hv2]; simp [hb0]
      rcases h1 with ⟨q, _⟩ | ⟨hb, _, _, q⟩ | ⟨hb, _, _, q⟩
      · exact absurd q hb0
      all_goals
       rw [if_neg (by omega), if_pos (by omega)] at hz
       rcases hh3 with ⟨q1, q2⟩ | ⟨q1, q2⟩ | ⟨q1, q2⟩
       · exact absurd q2 hy0
       all_goals
        first
         | (rw [if_pos (by omega)] at hz; obtain ⟨a1, a2, a3⟩ := h3.top hz.symm; exact .inr (.inl ⟨hf, ht, by rw [a1, hb, q1]; rfl, a2, a3⟩))
         | (rw [if_neg (by omega)] at hz; obtain ⟨a1, a2, a3⟩ := h3.bot hz.symm; exact .inr (.inl ⟨hf, ht, by rw [a1, hb, q1]; rfl, a2, a3⟩))
  · have hq : y = bigZ ∨ y = -bigZ := by
     rcases h2 with ⟨q, _⟩ | ⟨_, _, _, q⟩ | ⟨_, _, _, q⟩
     · exact absurd q hd
     · exact .inl q
     · exact .inr q
    have ez : z = 0 := by rw [← hz]; unfold overE; rw [if_pos hq]
    obtain ⟨e1, n3⟩ := h3.fin (by omega)
    exact .inl ⟨by rw [← hv3']; simp [hd], e1, n3.1.trans (by rw [ez]; rfl), n3.2.trans (by rw [ez]; exact limbs_eq_nil.2 rfl)⟩
 have hwb : b = 0 ∨ b = 1 ∨ b = -1 := by rcases h1 with ⟨q, _⟩ | ⟨q, _⟩ | ⟨q, _⟩ <;> omega
 obtain ⟨HA, HBx, HR, HB, Hg3⟩ := hid5 bA bB bR hB0 (And.intro hg3 (And.intro hh3 hv_))
 clear bA bB bR hB0 hg3 hh3 hv_ hg hh hv3 ex ey h1 h2 h3 hz hbz
 obtain ⟨Hd, He⟩ := hid2 HD (And.intro hv2 (And.intro hv3' (And.intro hv4 hwb)))
 clear HD hv2 hv3' hv4 hwb
 go_enter Tryz.func92, Tryz.ntmps92
 go_upto_region 1 with fail
 generalize hW : (((w.alloc (.cells #[.int .i64 b, .bool s, .slice A l.length c] 117)).alloc (.cells #[.int .i64 d, .bool t, .slice B k.length f] 117)).alloc (.cells #[.int .i64 0, .bool false, .slice none 0 0] 117)) = W1 at *
 clear hW
 obtain ⟨hv2, hv3, hv4, hwb⟩ := He.out
 have Hwb := hid hwb
 clear hwb
 rcases Hd.out with ⟨rfl, rfl, rfl, rfl⟩ | ⟨rfl, rfl, rfl, rfl, rfl⟩ | ⟨rfl, rfl, rfl, n1, n2, n3⟩
 · clear S1 S2 Hg3 He Hd hu hv hl hl2 Hwb
   have HP := hid (HR.out.put (w := w) HB.out (by omega) (.int .i64 0) (.bool false) (.slice none 0 0))
   obtain ⟨p0, p1, p2, _⟩ := HA.out
   obtain ⟨p3, p4, p5, _⟩ := HBx.out
   obtain ⟨q0, q1, q2, f0, f1, f2, _⟩ := HR.out
   go_wp2
   refine bodyPost_ret (res_place rfl _ (w.heap.size + 2) rfl HP.out.c0 HP.out.c1 HP.out.c2) rfl ?_
   exact ⟨none, 0, rfl, U64s.nil _ _, HP.out.bel⟩
 · obtain ⟨p0, p1, p2, _⟩ := HA.out
   obtain ⟨p3, p4, p5, _⟩ := HBx.out
   go_upto_region 4 with fail
   clear p0 p1 p2 p3 p4 p5
   have hs := boxD_keep (boxD_of HA.out HBx.out) bdr_
   have Hc := hid (from_ HB.out (Below.refl W1.heap.size W1).drew)
   replace HR := hid (HR.out.below bdr_)
   have hw : IntKind.i64.wrap (b * h) = b * h := by
    obtain ⟨_, hh3, _⟩ := Hg3.out
    rcases Hwb.out with rfl | rfl | rfl <;> rcases hh3 with ⟨rfl, _⟩ | ⟨rfl, _⟩ | ⟨rfl, _⟩ <;> decide
   have Hw := hid hw
   clear hw hv2 hv3 hv4
   first | go_region_held3 (fun w' => D3 w' w.heap.size (.int .i64 b) (.bool s) (.slice A l.length c) (C3 w' (w.heap.size + 1) (.int .i64 d) (.bool t) (.slice B k.length f)))
    (first | with_reducible exact hs | (with_reducible apply boxD_st3 rfl <;> (first | with_reducible exact hs | omega)) | (go_keep; done))
    ((go_at_call 96; (with_reducible refine (S2.out _ Hc.out).mono ?_); rintro e' w2 ⟨rfl, hc2⟩; replace hs := boxD_keep hs hc2; replace HR := hid (HR.out.below hc2); replace Hc := hid (from_ Hc.out hc2); have hw := Hw.out; obtain ⟨q0, q1, q2, f0, f1, f2, _⟩ := HR.out)) | fail
   all_goals
    have HP := hid (HR.out.put (w := w) Hc.out (by omega) (.int .i64 (b * h)) (.bool false) (.slice none 0 0))
    clear hs S1 S2 Hg3 He Hd hu hv hl hl2 Hwb
    have hw := Hw.out
    go_wp2
    (try rw [hw])
    refine bodyPost_ret (res_place rfl _ (w.heap.size + 2) rfl HP.out.c0 HP.out.c1 HP.out.c2) rfl ?_
    exact ⟨none, 0, rfl, U64s.nil _ _, HP.out.bel⟩
 · obtain ⟨p0, p1, p2, _⟩ := HA.out
   obtain ⟨p3, p4, p5, _⟩ := HBx.out
   obtain ⟨CA, Hv4⟩ := hid2 (fun (W : World) (q : Below w.heap.size w W) => And.intro (fun (hq : v4 = true) => wceil_m n1 n2 hy0 (by rw [hq] at n3; exact n3) (by omega) (hu.below q) (hv.below q)) (fun (hq : v4 = false) => wfloor_m n1 n2 hy0 (by rw [hq] at n3; exact n3) (by omega) (hu.below q) (hv.below q))) hv4
   clear hv4 n1 n2 n3
   have hy0_ := hy0
   clear hy0 hy0_
   go_upto_region 5 with fail
   clear p0 p1 p2 p3 p4 p5
   have hs := boxD_keep (boxD_of HA.out HBx.out) bdr_
   have Hc := hid (Below.refl W1.heap.size W1).drew
   go_cut [24] (fun sx wx => sx = .bool v4 ∧ Below W1.heap.size W1 wx)
   case first =>
    obtain ⟨hg3, hh3, hv_⟩ := Hg3.out
    have hw : IntKind.i64.wrap (g * h) = v := by
     rw [← hv_]
     rcases hg3 with ⟨rfl, a⟩ | ⟨rfl, a⟩ | ⟨rfl, a⟩ <;> rcases hh3 with ⟨rfl, b⟩ | ⟨rfl, b⟩ | ⟨rfl, b⟩ <;> decide
    have Hw := hid hw
    clear hg3 hh3 hv_ hw
    first | go_region_held3 (fun w' => D3 w' w.heap.size (.int .i64 b) (.bool s) (.slice A l.length c) (C3 w' (w.heap.size + 1) (.int .i64 d) (.bool t) (.slice B k.length f)))
     (first | with_reducible exact hs | (go_keep; done))
     ((go_at_call 96; (first | (with_reducible refine (S1.out _ (from_ HB.out Hc.out)).mono ?_) | (with_reducible refine (S2.out _ (from_ HB.out Hc.out)).mono ?_)); rintro e' w2 ⟨rfl, hc2⟩; replace hs := boxD_keep hs hc2; replace Hc := hid (from_ Hc.out hc2))) | fail
    all_goals
     clear hs
     have hw := Hw.out
     have hv4 := Hv4.out
     go_wp2_with fail
     go_meet
     exact ⟨by first | rfl | trivial | (rw [hw, hv4]) | (simp [hw, hv4]), Hc.out⟩
   case rest =>
    clear hs Hc
    obtain ⟨rfl, hc⟩ := hcut
    replace HA := hid (HA.out.below hc)
    replace HBx := hid (HBx.out.below hc)
    replace HR := hid (HR.out.below hc)
    replace HB := hid (from_ HB.out hc)
    clear hc
    obtain ⟨W2, hren⟩ : ∃ W, W = wc := ⟨_, rfl⟩
    subst hren
    clear S1 S2 Hg3 He Hd Hv4 hv2 hv3 Hwb
    cases v4 with
    | true =>
      replace CA := hid (fun (W : World) (q : Below w.heap.size w W) => (CA.out W q).1 rfl)
      obtain ⟨p0, p1, p2, _⟩ := HA.out
      obtain ⟨p3, p4, p5, _⟩ := HBx.out
      go_wp2_with fail
      refine (CA.out _ HB.out).mono ?_
      rintro e' w1 ⟨Av, cv, rfl, u1, hc⟩
      clear p0 p1 p2 p3 p4 p5
      have hB1 := from_ HB.out hc
      have bR1 := HR.out.below hc
      have hP := bR1.put hB1 (by omega) (.int .i64 0) (.bool r) (.slice Av m.length cv)
      obtain ⟨HP, hal⟩ := hid2 hP ((Below.refl _ (((w1.setCell ⟨w.heap.size + 2, 0, none⟩ (.int .i64 0)).setCell ⟨w.heap.size + 2, 1, none⟩ (.bool r)).setCell ⟨w.heap.size + 2, 2, none⟩ (.slice Av m.length cv))).alloc (Nat.le_refl _) (.cells #[.bool r, .slice Av m.length cv] 25))
      have U1 := hid (((hP.keep (fun (h : _ ≤ w.heap.size + 2) => by have h8 := HR.out.lt; omega) u1).mono (new_le HB.out.size)).below hal.out)
      obtain ⟨q0, q1, q2, f0, f1, f2, z1⟩ := bR1
      obtain ⟨p0, p1, p2, _⟩ := HA.out.below hc
      obtain ⟨p3, p4, p5, _⟩ := HBx.out.below hc
      have y1 : ¬ w1.heap.size = w.heap.size + 2 := by omega
      have y2 : ¬ w.heap.size + 2 = w1.heap.size := by omega
      clear hP u1 hc hB1
      go_wp2
      refine bodyPost_ret (res_place rfl _ (w.heap.size + 2) rfl (keepC hal.out HP.out.c0) (keepC hal.out HP.out.c1) (keepC hal.out HP.out.c2)) rfl ?_
      exact ⟨_, _, rfl, U1.out, from_ HP.out.bel hal.out⟩
    | false =>
      replace CA := hid (fun (W : World) (q : Below w.heap.size w W) => (CA.out W q).2 rfl)
      obtain ⟨p0, p1, p2, _⟩ := HA.out
      obtain ⟨p3, p4, p5, _⟩ := HBx.out
      go_wp2_with fail
      refine (CA.out _ HB.out).mono ?_
      rintro e' w1 ⟨Av, cv, rfl, u1, hc⟩
      clear p0 p1 p2 p3 p4 p5
      have hB1 := from_ HB.out hc
      have bR1 := HR.out.below hc
      have hP := bR1.put hB1 (by omega) (.int .i64 0) (.bool r) (.slice Av m.length cv)
      obtain ⟨HP, hal⟩ := hid2 hP ((Below.refl _ (((w1.setCell ⟨w.heap.size + 2, 0, none⟩ (.int .i64 0)).setCell ⟨w.heap.size + 2, 1, none⟩ (.bool r)).setCell ⟨w.heap.size + 2, 2, none⟩ (.slice Av m.length cv))).alloc (Nat.le_refl _) (.cells #[.bool r, .slice Av m.length cv] 25))
      have U1 := hid (((hP.keep (fun (h : _ ≤ w.heap.size + 2) => by have h8 := HR.out.lt; omega) u1).mono (new_le HB.out.size)).below hal.out)
      obtain ⟨q0, q1, q2, f0, f1, f2, z1⟩ := bR1
      obtain ⟨p0, p1, p2, _⟩ := HA.out.below hc
      obtain ⟨p3, p4, p5, _⟩ := HBx.out.below hc
      have y1 : ¬ w1.heap.size = w.heap.size + 2 := by omega
      have y2 : ¬ w.heap.size + 2 = w1.heap.size := by omega
      clear hP u1 hc hB1
      go_wp2
      refine bodyPost_ret (res_place rfl _ (w.heap.size + 2) rfl (keepC hal.out HP.out.c0) (keepC hal.out HP.out.c1) (keepC hal.out HP.out.c2)) rfl ?_
      exact ⟨_, _, rfl, U1.out, from_ HP.out.bel hal.out⟩
theorem icrossed_over 
  (u1 : U64s w Z1 A a l0) (u2 : U64s w Z2 B b l1) (u3 : U64s w Z3 C c k0) (u4 : U64s w Z4 D d k1) (h1 : okA n0 s0 l0 n1 s1 l1 = true) (h2 : okA m0 t0 k0 m1 t1 k1 = true)
  (q1 : l0.length ≤ 60) (q2 : l1.length ≤ 60) (q3 : k0.length ≤ 60) (q4 : k1.length ≤ 60) (hq : loV m0 t0 k0 ≠ 0 ∧ hiV m1 t1 k1 ≠ 0)
  (hz0 : z0 = divLo (loV n0 s0 l0) (hiV n1 s1 l1) (loV m0 t0 k0) (hiV m1 t1 k1)) (hz1 : z1 = divHi (loV n0 s0 l0) (hiV n1 s1 l1) (loV m0 t0 k0) (hiV m1 t1 k1)) (gm : z0 < bigZ) (gM : -bigZ < z1) (e0 : EndL z0 rn0 rs0 rl0) (e1 : EndH z1 rn1 rs1 rl1) :
  Calls Tryz.prog 91 #[.agg #[.bool n0, .bool s0, .slice A l0.length a, .bool n1, .bool s1, .slice B l1.length b], .agg #[.bool m0, .bool t0, .slice C k0.length c, .bool m1, .bool t1, .slice D k1.length d], .func (.func 92) #[] #[]] w fun e w' => ∃ rA ra rB rb, e = .returned (.agg #[.bool rn0, .bool rs0, .slice rA rl0.length ra, .bool rn1, .bool rs1, .slice rB rl1.length rb]) ∧ U64s w' (new w.heap.size) rA ra rl0 ∧ U64s w' (new w.heap.size) rB rb rl1 ∧ Below w.heap.size w w' :=
 icrossed_any (n := 60) (by omega) (by simp) (op := overE bigZ) u1 u2 u3 u4 h1 h2 (by omega) (by omega) (by omega) (by omega) (fun _ p q hl _ _ => (ext_over (p.ext hl)).up (by omega)) (fun _ hy p q r hz u v hl hk => iover_p p q r hz (hy.elim (fun e => e ▸ hq.1) (fun e => e ▸ hq.2)) u v hl hk) hz0 hz1 gm gM e0 e1
end Go.Proofs.YtcheajjjdbllfaaGreat
