/- (*looker).expr of a number and of a scalar that stands first in the pack. No conditions but bounds. -/
import Derived.LoopN
import Derived.Deep.DeepCutAuto
import Derived.Test.YtdncgncijbnjpaaGreatRLnN
set_option linter.unusedVariables false
set_option linter.unusedSimpArgs false
set_option maxRecDepth 100000
set_option maxHeartbeats 40000000
namespace Go.Proofs.YtdncgncijbnjpaaGreat
open Go.Lib (hid)
open Go.RowKit
variable {W : World} {a0 a1 a10 a11 a12 a13 a2 a3 a4 a5 a6 a7 a8 a9 : Value} {g : Nat}
theorem lexpr_num {w : World} {lk pn pc bn bc cx : Nat} {PA BA AX : Option Addr} {g0 g1 g2 g3 g4 g5 : Value} {w0 w1 w2 w3 w4 w5 : Bool} {nm : ByteArray} {n pp : Int} (hk : BoxL w lk [g0, g1, g2, g3, g4, g5, .slice PA pn pc, .slice BA bn bc, .bool w0, .bool w1, .bool w2, .bool w3, .bool w4, .bool w5]) (hd : pn ≤ 63) (hn : -9223372036854775808 ≤ n ∧ n ≤ 9223372036854775807) {r : Iv} (hr : IvW (n, n) r) :
  Calls Tryz.prog 31 #[.pointer (some ⟨lk, 0, none⟩), .agg #[.int .u8 1, .string nm, .int .i64 n, .slice AX 0 cx, .int .i64 pp]] w fun e w' => ∃ A a B b F f, e = .returned (.tuple #[.agg #[.bool r.n0, .bool r.s0, .slice A r.l0.length a, .bool r.n1, .bool r.s1, .slice B r.l1.length b, .slice F (pn + 1) f], .bool true]) ∧ U64s w' (new w.heap.size) A a r.l0 ∧ U64s w' (new w.heap.size) B b r.l1 ∧ IvsAt w' (new w.heap.size) F f (fmOf (constL pn (n, n))) ∧ NewA w.heap.size F ∧ Below w.heap.size w w' := by
 obtain ⟨W1, D⟩ : ∃ W, (((w.alloc (.cells #[.int .u8 1, .string nm, .int .i64 n, .slice AX 0 cx, .int .i64 pp] 29)).alloc (.cells #[.bool false, .bool false, .slice none 0 0, .bool false, .bool false, .slice none 0 0, .slice none 0 0] 85)).alloc (.cells #[.bool false, .bool false, .slice none 0 0, .bool false, .bool false, .slice none 0 0, .slice none 0 0, .bool false, .bool false, .slice none 0 0, .bool false, .bool false, .slice none 0 0, .slice none 0 0] 129)) = W := ⟨_, rfl⟩
 have O : Below w.heap.size w W1 := by
  rw [← D]
  exact (((Below.refl _ w).alloc (Nat.le_refl _) _).alloc (by simp) _).alloc (by first | (simp; done) | (simp; omega)) _
 have P : Hid (BoxL W1 w.heap.size [.int .u8 1, .string nm, .int .i64 n, .slice AX 0 cx, .int .i64 pp]) := hid (by
  rw [← D]
  exact ((BoxL.new w [.int .u8 1, .string nm, .int .i64 n, .slice AX 0 cx, .int .i64 pp] 29).alloc _).alloc _)
 have R : Hid (BoxL W1 (w.heap.size + 1) [.bool false, .bool false, .slice none 0 0, .bool false, .bool false, .slice none 0 0, .slice none 0 0]) := hid (by
  rw [← D]
  have h := (BoxL.new (w.alloc (.cells #[.int .u8 1, .string nm, .int .i64 n, .slice AX 0 cx, .int .i64 pp] 29)) [.bool false, .bool false, .slice none 0 0, .bool false, .bool false, .slice none 0 0, .slice none 0 0] 85).alloc (.cells #[.bool false, .bool false, .slice none 0 0, .bool false, .bool false, .slice none 0 0, .slice none 0 0, .bool false, .bool false, .slice none 0 0, .bool false, .bool false, .slice none 0 0, .slice none 0 0] 129)
  rw [show (w.alloc (.cells #[.int .u8 1, .string nm, .int .i64 n, .slice AX 0 cx, .int .i64 pp] 29)).heap.size = w.heap.size + 1 by simp] at h
  exact h)
 have HL : Hid (BoxL W1 (w.heap.size + 2) [.bool false, .bool false, .slice none 0 0, .bool false, .bool false, .slice none 0 0, .slice none 0 0, .bool false, .bool false, .slice none 0 0, .bool false, .bool false, .slice none 0 0, .slice none 0 0]) := hid (by
  rw [← D]
  have h := BoxL.new ((w.alloc (.cells #[.int .u8 1, .string nm, .int .i64 n, .slice AX 0 cx, .int .i64 pp] 29)).alloc (.cells #[.bool false, .bool false, .slice none 0 0, .bool false, .bool false, .slice none 0 0, .slice none 0 0] 85)) [.bool false, .bool false, .slice none 0 0, .bool false, .bool false, .slice none 0 0, .slice none 0 0, .bool false, .bool false, .slice none 0 0, .bool false, .bool false, .slice none 0 0, .slice none 0 0] 129
  rw [show ((w.alloc (.cells #[.int .u8 1, .string nm, .int .i64 n, .slice AX 0 cx, .int .i64 pp] 29)).alloc (.cells #[.bool false, .bool false, .slice none 0 0, .bool false, .bool false, .slice none 0 0, .slice none 0 0] 85)).heap.size = w.heap.size + 2 by simp] at h
  exact h)
 have S : w.heap.size + 3 ≤ W1.heap.size := by rw [← D]; simp
 obtain ⟨I, z, X⟩ := hid3 S O (hk.below O)
 have T : lk < w.heap.size := hk.lt
 obtain ⟨Kb, Z, d⟩ := hid3 T (lbetween_r (w := W1) hr hn hn (Int.le_refl n)) (fun (W : World) (E G : Option Addr) (e g K : Nat) (h : W.cell? ⟨lk, 6, none⟩ = some (.slice PA pn pc)) (J : U64s W (new K) E e r.l0) (L : U64s W (new K) G g r.l1) => lconstant_r (w := W) h hd hr (iv_n (N := 6000) hn hn (Int.le_refl n) (by omega)) (by omega) J L)
 have u := P.out.c 0 _ rfl
 have v := P.out.c 2 _ rfl
 have x := P.out.c 3 _ rfl
 clear O hk hd hn hr S T
 go_enter Tryz.func31, Tryz.ntmps31
 go_wp2
 refine wp_loop_rounds 1 ?_
 rw [rounds_succ]
 go_wp2_with fail
 refine Z.out.mono ?_
 rintro e w2 ⟨A, a, B, b, rfl, J, L, C⟩
 have U := X.out.below C
 obtain ⟨i, Q, j, M, m, q⟩ := hid6 (d.out w2 A B a b _ (U.c 6 _ rfl) J L) (R.out.below C) (from_ z.out C) (Nat.le_trans I.out C.size) J L
 clear D u v x Z d J L C U R X
 go_wp2_with fail
 refine i.out.mono ?_
 rintro e w3 ⟨F, f, rfl, s, hn, C⟩
 have H := grown_set7 w3 (w.heap.size + 1) (.bool r.n0) (.bool r.s0) (.slice A r.l0.length a) (.bool r.n1) (.bool r.s1) (.slice B r.l1.length b) (.slice F (pn + 1) f)
 obtain ⟨HP, Ka, U1, U2, U3, HN⟩ := hid6 ((Q.out.below C).put7 (.bool r.n0) (.bool r.s0) (.slice A r.l0.length a) (.bool r.n1) (.bool r.s1) (.slice B r.l1.length b) (.slice F (pn + 1) f)) ((from_ j.out C).grown H (by have := j.out.size; have := C.size; omega) (fun k e => by injection e; omega)) (((m.out.below C).keepN H (fun h => by have V : W1.heap.size ≤ w.heap.size + 1 := h; have := I.out; omega)).mono (Y := new w.heap.size) (new_le (by have := I.out; omega))) (((q.out.below C).keepN H (fun h => by have V : W1.heap.size ≤ w.heap.size + 1 := h; have := I.out; omega)).mono (Y := new w.heap.size) (new_le (by have := I.out; omega))) ((s.keepN hn H (fun h => by have V : _ ≤ w.heap.size + 1 := h; have := M.out; omega) (by have := M.out; omega)).mono (Y := new w.heap.size) (new_le (by have := M.out; omega))) (show NewA w.heap.size F from fun b o e => by have h1 := hn b o e; have := M.out; omega)
 have y := hid (Q.out.below C)
 obtain ⟨⟨r0, r1, r2, r3, r4, r5, r6⟩, q0, q1, q2, q3, q4, q5, q6⟩ := y.out.all7
 clear C H s hn m q i Q
 go_wp2
 refine bodyPost_ret (res_lined2 rfl _ (w.heap.size + 1) rfl HP.out) rfl ?_
 exact ⟨_, _, _, _, _, _, rfl, U1.out, U2.out, U3.out, HN.out, Ka.out⟩
theorem BoxL.all14 (H : BoxL W g [a0, a1, a2, a3, a4, a5, a6, a7, a8, a9, a10, a11, a12, a13]) : W.cell? ⟨g, 0, none⟩ = some a0 ∧ W.cell? ⟨g, 1, none⟩ = some a1 ∧ W.cell? ⟨g, 2, none⟩ = some a2 ∧ W.cell? ⟨g, 3, none⟩ = some a3 ∧ W.cell? ⟨g, 4, none⟩ = some a4 ∧ W.cell? ⟨g, 5, none⟩ = some a5 ∧ W.cell? ⟨g, 6, none⟩ = some a6 ∧ W.frozen? ⟨g, 0, none⟩ = false ∧ W.frozen? ⟨g, 1, none⟩ = false ∧ W.frozen? ⟨g, 2, none⟩ = false ∧ W.frozen? ⟨g, 3, none⟩ = false ∧ W.frozen? ⟨g, 4, none⟩ = false ∧ W.frozen? ⟨g, 5, none⟩ = false ∧ W.frozen? ⟨g, 6, none⟩ = false := ⟨H.c 0 _ rfl, H.c 1 _ rfl, H.c 2 _ rfl, H.c 3 _ rfl, H.c 4 _ rfl, H.c 5 _ rfl, H.c 6 _ rfl, H.f 0 _ rfl, H.f 1 _ rfl, H.f 2 _ rfl, H.f 3 _ rfl, H.f 4 _ rfl, H.f 5 _ rfl, H.f 6 _ rfl⟩
theorem BoxL.all14b (H : BoxL W g [a0, a1, a2, a3, a4, a5, a6, a7, a8, a9, a10, a11, a12, a13]) : W.cell? ⟨g, 7, none⟩ = some a7 ∧ W.cell? ⟨g, 8, none⟩ = some a8 ∧ W.cell? ⟨g, 9, none⟩ = some a9 ∧ W.cell? ⟨g, 10, none⟩ = some a10 ∧ W.cell? ⟨g, 11, none⟩ = some a11 ∧ W.cell? ⟨g, 12, none⟩ = some a12 ∧ W.cell? ⟨g, 13, none⟩ = some a13 ∧ W.frozen? ⟨g, 7, none⟩ = false ∧ W.frozen? ⟨g, 8, none⟩ = false ∧ W.frozen? ⟨g, 9, none⟩ = false ∧ W.frozen? ⟨g, 10, none⟩ = false ∧ W.frozen? ⟨g, 11, none⟩ = false ∧ W.frozen? ⟨g, 12, none⟩ = false ∧ W.frozen? ⟨g, 13, none⟩ = false := ⟨H.c 7 _ rfl, H.c 8 _ rfl, H.c 9 _ rfl, H.c 10 _ rfl, H.c 11 _ rfl, H.c 12 _ rfl, H.c 13 _ rfl, H.f 7 _ rfl, H.f 8 _ rfl, H.f 9 _ rfl, H.f 10 _ rfl, H.f 11 _ rfl, H.f 12 _ rfl, H.f 13 _ rfl⟩
theorem BoxL.allc14 (H : BoxL W g [a0, a1, a2, a3, a4, a5, a6, a7, a8, a9, a10, a11, a12, a13]) : W.cell? ⟨g, 0, none⟩ = some a0 ∧ W.cell? ⟨g, 1, none⟩ = some a1 ∧ W.cell? ⟨g, 2, none⟩ = some a2 ∧ W.cell? ⟨g, 3, none⟩ = some a3 ∧ W.cell? ⟨g, 4, none⟩ = some a4 ∧ W.cell? ⟨g, 5, none⟩ = some a5 ∧ W.cell? ⟨g, 6, none⟩ = some a6 ∧ W.cell? ⟨g, 7, none⟩ = some a7 ∧ W.cell? ⟨g, 8, none⟩ = some a8 ∧ W.cell? ⟨g, 9, none⟩ = some a9 ∧ W.cell? ⟨g, 10, none⟩ = some a10 ∧ W.cell? ⟨g, 11, none⟩ = some a11 ∧ W.cell? ⟨g, 12, none⟩ = some a12 ∧ W.cell? ⟨g, 13, none⟩ = some a13 := ⟨H.c 0 _ rfl, H.c 1 _ rfl, H.c 2 _ rfl, H.c 3 _ rfl, H.c 4 _ rfl, H.c 5 _ rfl, H.c 6 _ rfl, H.c 7 _ rfl, H.c 8 _ rfl, H.c 9 _ rfl, H.c 10 _ rfl, H.c 11 _ rfl, H.c 12 _ rfl, H.c 13 _ rfl⟩
end Go.Proofs.YtdncgncijbnjpaaGreat
