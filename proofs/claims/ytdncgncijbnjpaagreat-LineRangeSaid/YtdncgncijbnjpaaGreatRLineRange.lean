/- facetroomlaw27.LineRange: for every input the law is true, and its arguments read as they did. No conditions. -/
import Derived.Test.YtdncgncijbnjpaaGreatRFrameB
import Derived.Test.YtdncgncijbnjpaaGreatRLawLineRange
import Derived.Test.YtdncgncijbnjpaaGreatRWhV
set_option linter.unusedVariables false
set_option linter.unusedSimpArgs false
set_option maxRecDepth 100000
set_option maxHeartbeats 40000000
namespace Go.Proofs.YtdncgncijbnjpaaGreat.lineRange
open Go.ChangeShapes Go.WideShapes Go.ChangeAt Go.RowKit
theorem lifted (os : Os) (started : os.Started) (H : Type) (enc : TypeId × Value → H) :
  ReturnsInHanded {} Tryz.checked os 3 .any (Rows.lineRangeSpec.pre6 enc Tryz.prog Tryz.f3 Rows.lineRangeRow.domain false) (Rows.lineRangeSpec.post enc Tryz.prog Tryz.f3 false true false false) := by
 refine returnsInHanded_of_change_sized (C := Tryz.checked) ownKnob_ started (by kernel_rfl) Tryz.func3
  (ChangeSpec.witness6 (enc := enc) (C := Tryz.checked) false ⟨#[], #[.agg #[.int .i64 0, .slice none 0 0, .int .i64 0, .int .i64 0, .int .i64 0, .slice none 0 0], .slice none 0 0, .slice none 0 0, .agg #[.int .u8 0, .string ⟨#[]⟩, .int .i64 0, .slice none 0 0, .int .i64 0]], []⟩ 8 (by kernel_rfl) (by kernel_rfl) (by kernel_rfl) (by kernel_rfl)) ?_
 intro W base args ds gs before hval0 hW hcnd hwt _
 have D : ∀ (j : Nat) t v, Tryz.f3.params[j]? = some t → args[j]? = some v → Value.okWide Tryz.prog W .any base t v := hval0
 have U := hW
 obtain ⟨p, q, L, d, rfl, Kb, Kc⟩ := hW
 have F : DataW.TrodAll enc Tryz.prog W 0 (fun _ => true) true Tryz.f3.params.toList args.toList ds p := L
 rw [Tryz.params3] at F D
 rw [Tryz.params3] at hwt
 obtain ⟨M, Kd, d0, Ke, g, q0, Kf, rfl, rfl, N, o⟩ := trodAll_cons F
 obtain ⟨E, Kg, d1, Kh, r, q1, rfl, rfl, rfl, O, s⟩ := trodAll_cons o
 obtain ⟨P, Ki, d2, Kj, u, q2, rfl, rfl, rfl, Q, y⟩ := trodAll_cons s
 obtain ⟨R, Kk, d3, Kl, z, q3, rfl, rfl, rfl, S, r3⟩ := trodAll_cons y
 obtain ⟨rfl, rfl, rfl⟩ := trodAll_nil r3
 obtain rfl : args = #[M, E, P, R] := by cases args; simp_all
 obtain ⟨rfl, rfl⟩ := trodVars_none d
 obtain ⟨_, _, _, tW⟩ := wholeT_
 obtain ⟨_, _, _, _, _, _, tI⟩ := itvT_
 obtain ⟨_, T⟩ := exT_
 obtain ⟨_, _, tD⟩ := edT_
 obtain ⟨_, tG⟩ := grT_
 have G := N
 have V : ∀ x ∈ g, x.block < W.heap.size := by obtain ⟨m, B⟩ := G; exact DataW.trod_lt m _ _ _ B
 have X : Light Tryz.prog 25 d0 := fun n hn => Nat.le_trans (of_decide_eq_true (List.all_eq_true.1 hwt n (weightsEach_mem (i := 0) rfl rfl hn))) (by unfold reachBytes; omega)
 obtain ⟨V0, Km, Kn, Ko, Kp, Kq, Kr, Ks, Kt, Kv, Kw, Kx, w0⟩ := open_graph T tD tG (D 0 25 M rfl rfl) N X
 have I := O
 have Y : ∀ x ∈ r, x.block < W.heap.size := by obtain ⟨m, B⟩ := I; exact DataW.trod_lt m _ _ _ B
 obtain ⟨A1, c1, n1, sz1, e1, Ka⟩ := open_row Tryz.underlying22 Tryz.underlying3 (by kernel_rfl) (D 1 22 E rfl rfl) O
 have Z : IsRowI W E A1 c1 n1 sz1 := And.intro e1 Ka
 have J := Q
 have a : ∀ x ∈ u, x.block < W.heap.size := by obtain ⟨m, B⟩ := J; exact DataW.trod_lt m _ _ _ B
 obtain ⟨l2, w2⟩ := open_itvs Tryz.underlying26 tI tW (D 2 26 P rfl rfl) Q
 have K := S
 have b : ∀ x ∈ z, x.block < W.heap.size := by obtain ⟨m, B⟩ := K; exact DataW.trod_lt m _ _ _ B
 have c : Light Tryz.prog 29 d3 := fun n hn => Nat.le_trans (of_decide_eq_true (List.all_eq_true.1 hwt n (weightsEach_mem (i := 3) rfl rfl hn))) (by unfold reachBytes; omega)
 obtain ⟨x3, Ky, A3, c3, w3⟩ := open_expr T (D 3 29 R rfl rfl) S c
 clear L hval0
 refine (lawLineRange w0 Z w2 w3).mono fun e W' ⟨he, bel⟩ => ?_
 subst he
 exact ⟨_, rfl, _, _, _, [], _, [], U, trodAll_mk1 (shut_bool Tryz.underlying4 _), (trodAll_cons_mk (Below.trod laidOut_ (by kernel_rfl) (of_decide_eq_true (by kernel_rfl)) G bel V) (trodAll_cons_mk (Below.trod laidOut_ (by kernel_rfl) (of_decide_eq_true (by kernel_rfl)) I bel Y) (trodAll_cons_mk (Below.trod laidOut_ (by kernel_rfl) (of_decide_eq_true (by kernel_rfl)) J bel a) (trodAll_cons_mk (Below.trod laidOut_ (by kernel_rfl) (of_decide_eq_true (by kernel_rfl)) K bel b) trodAll_mk0)))), rfl, bel.frame _, fun h => by cases h⟩
theorem proved : Rows.LineRangeSaid :=
 OpenClaim.holds_of_wide 3 Tryz.f3 rfl rfl rfl rfl rfl rfl rfl ⟨rfl, rfl, rfl, rfl, rfl⟩ rfl rfl rfl rfl rfl (by kernel_rfl) Tryz.func3 (by kernel_rfl)
  (of_decide_eq_true (by kernel_rfl)) (by unfold Func.isWrapper; first | (rw [if_pos (by decide +kernel)]; kernel_rfl) | (rw [if_neg (by decide +kernel)]; exact ⟨rfl, rfl⟩))
  (fun os started H enc _ => lifted os started H enc)
#print axioms proved
end Go.Proofs.YtdncgncijbnjpaaGreat.lineRange
