/- (*looker).keep and ranged where nothing goes wrong. No conditions but bounds. -/
import Derived.RegionCalls
import Derived.Test.YtdncgncijbnjpaaGreatRTelJ
set_option linter.unusedVariables false
set_option linter.unusedSimpArgs false
set_option maxRecDepth 100000
set_option maxHeartbeats 40000000
namespace Go.Proofs.YtdncgncijbnjpaaGreat
open Go.Lib (hid)
open Go.RowKit
variable {x y : Int}
theorem iv_n8 (hx : -9223372036854775808 ≤ x ∧ x ≤ 9223372036854775807) (hy : -9223372036854775808 ≤ y ∧ y ≤ 9223372036854775807) (h : x ≤ y) : IvN 8 x y := by
 have A : wN 1 = 18446744073709551616 := wN_one
 have B : wN 1 ≤ wN 8 := wN_mono (by omega)
 have C : wN 8 ≤ bigZ := wN_le (by omega)
 exact ⟨.inr (.inr (by omega)), .inr (.inr (by omega)), h, by omega, by omega⟩
theorem iv_n (hx : -9223372036854775808 ≤ x ∧ x ≤ 9223372036854775807) (hy : -9223372036854775808 ≤ y ∧ y ≤ 9223372036854775807) (h : x ≤ y) {N : Nat} (hN : 8 ≤ N) : IvN N x y := (iv_n8 hx hy h).up hN
theorem allP_n : IvN 6000 allP.1 allP.2 := iv_n (by decide) (by decide) (by decide) (by omega)
theorem lkeep_in {w : World} {Z1 Z2 Z3 Z4 : Zone} {lk : Nat} {m : Int} {A B C D : Option Addr} {a b c d : Nat} {p q : Iv} {P Q : IvP} (hp : IvW P p) (gp : IvN 6000 P.1 P.2) (hq : IvW Q q) (gq : IvN 6000 Q.1 Q.2) (u1 : U64s w Z1 A a p.l0) (u2 : U64s w Z2 B b p.l1) (u3 : U64s w Z3 C c q.l0) (u4 : U64s w Z4 D d q.l1) (hin : Q.1 ≤ P.1 ∧ P.2 ≤ Q.2) :
  Calls Tryz.prog 122 #[.pointer (some ⟨lk, 0, none⟩), .agg #[.bool p.n0, .bool p.s0, .slice A p.l0.length a, .bool p.n1, .bool p.s1, .slice B p.l1.length b], .agg #[.bool q.n0, .bool q.s0, .slice C q.l0.length c, .bool q.n1, .bool q.s1, .slice D q.l1.length d], .int .u8 m] w fun e w' => e = .returned (.tuple #[.agg #[.bool p.n0, .bool p.s0, .slice A p.l0.length a, .bool p.n1, .bool p.s1, .slice B p.l1.length b], .bool true]) ∧ Below w.heap.size w w' := by
 have H : Below w.heap.size w (w.alloc (.cells #[.bool p.n0, .bool p.s0, .slice A p.l0.length a, .bool p.n1, .bool p.s1, .slice B p.l1.length b] 39)) := (Below.refl _ w).alloc (Nat.le_refl _) _
 have I := H.alloc H.size (.cells #[.bool q.n0, .bool q.s0, .slice C q.l0.length c, .bool q.n1, .bool q.s1, .slice D q.l1.length d] 39)
 have E := I.alloc I.size (.cells #[.bool false, .bool false, .slice none 0 0, .bool false, .bool false, .slice none 0 0] 39)
 have F := Q3.new w (.bool p.n0) (.bool p.s0) (.slice A p.l0.length a) (.bool p.n1) (.bool p.s1) (.slice B p.l1.length b) (.bool q.n0) (.bool q.s0) (.slice C q.l0.length c) (.bool q.n1) (.bool q.s1) (.slice D q.l1.length d) (.bool false) (.bool false) (.slice none 0 0) (.bool false) (.bool false) (.slice none 0 0) 39
 obtain ⟨V, S⟩ : ∃ W, ((w.alloc (.cells #[.bool p.n0, .bool p.s0, .slice A p.l0.length a, .bool p.n1, .bool p.s1, .slice B p.l1.length b] 39)).alloc (.cells #[.bool q.n0, .bool q.s0, .slice C q.l0.length c, .bool q.n1, .bool q.s1, .slice D q.l1.length d] 39)).alloc (.cells #[.bool false, .bool false, .slice none 0 0, .bool false, .bool false, .slice none 0 0] 39) = W := ⟨_, rfl⟩
 replace F := F.1
 rw [S] at E F
 obtain ⟨T, X, G⟩ := hid3 (iin_w (w := V) hp gp hq gq (u1.below E) (u2.below E) (u3.below E) (u4.below E) (decide_eq_true hin)) E F
 obtain ⟨J, K, L⟩ := F
 obtain ⟨O, Y, Z, g, h, i, _, _, _, _, _, _, _⟩ := J
 obtain ⟨R, j, o, r, s, u, _, _, _, _, _, _, _⟩ := K
 clear L
 clear H I E hp gp hq gq u1 u2 u3 u4 hin
 go_enter Tryz.func122, Tryz.ntmps122
 go_wp2_with fail
 refine T.out.mono ?_
 rintro e v ⟨rfl, M⟩
 replace G := hid (G.out.below M)
 have U := hid (from_ X.out M)
 have N := hid (G.out.2.2.put (w := w) U.out (by omega) (.bool p.n0) (.bool p.s0) (.slice A p.l0.length a) (.bool p.n1) (.bool p.s1) (.slice B p.l1.length b))
 clear S O Y Z g h i R j o r s u M T
 obtain ⟨J, K, L⟩ := id G.out
 have O := J.all
 have R := L.cf
 clear K
 go_wp2
 refine bodyPost_ret (res_itv2 rfl _ (w.heap.size + 2) rfl N.out.box) rfl ?_
 exact ⟨rfl, N.out.bel⟩
theorem lstraight2 {w : World} {Z Y : Zone} {ga gb fa fb : Nat} {FA FB : Option Addr} {Ps Qs : List IvP} (ca : w.cell? ⟨ga, 6, none⟩ = some (.slice FA (fmOf Ps).length fa)) (cb : w.cell? ⟨gb, 6, none⟩ = some (.slice FB (fmOf Qs).length fb)) (ha : IvsAt w Z FA fa (fmOf Ps)) (hb : IvsAt w Y FB fb (fmOf Qs)) (hp : FmW 3200 Ps (fmOf Ps)) (hq : FmW 3200 Qs (fmOf Qs)) (hl : 1 ≤ Ps.length ∧ Ps.length ≤ 64) (hpq : Qs.length = Ps.length) :
  Calls Tryz.prog 131 #[.pointer (some ⟨ga, 0, none⟩), .pointer (some ⟨gb, 0, none⟩)] w fun e w' => ∃ Av cv, e = .returned (.tuple #[.slice Av (fmOf (addLL Ps Qs)).length cv, .int .i64 0]) ∧ IvsAt w' (new w.heap.size) Av cv (fmOf (addLL Ps Qs)) ∧ Below w.heap.size w w' ∧ NewA w.heap.size Av := by
 have E := hid (ladd_n ha hb hp hq (by rw [fmOf_len]; exact hl) (by rw [fmOf_len, fmOf_len]; exact hpq))
 clear ha hb hp hq hl hpq
 generalize (fmOf Ps).length = L at *
 generalize (fmOf Qs).length = M at *
 generalize fmOf (addLL Ps Qs) = rs at *
 go_enter Tryz.func131, Tryz.ntmps131
 go_wp2_with fail
 refine E.out.mono ?_
 rintro e G ⟨Av, cv, rfl, B, C, D⟩
 have F := hid (And.intro B (And.intro C D))
 clear B C D ca cb
 go_wp2
 go_ret2
 exact ⟨_, _, rfl, F.out⟩
theorem goesAdd : Goes 95 := goes_of Tryz.func95 rfl rfl
end Go.Proofs.YtdncgncijbnjpaaGreat
