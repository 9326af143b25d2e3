/- slices.Clone of a form of two intervals. No conditions. -/
import Derived.Test.YtcheajjjdbllfaaGreatNTelJ
import Derived.Test.YtcheajjjdbllfaaGreatNClone
import Derived.Test.YtcheajjjdbllfaaGreatNLnR
set_option linter.unusedVariables false
set_option linter.unusedSimpArgs false
set_option maxRecDepth 100000
set_option maxHeartbeats 40000000
namespace Go.Proofs.YtcheajjjdbllfaaGreat
open Go.Lib (hid)
open Go.RowKit
theorem lclone2 {w : World} {Z : Zone} {A : Option Addr} {c : Nat} {p0 p1 : Iv} (ha : IvsAt w Z A c [p0, p1]) :
  Calls Tryz.prog 20 #[.slice A 2 c] w fun e w' => ∃ F f, e = .returned (.slice F 2 f) ∧ IvsAt w' Z F f [p0, p1] ∧ NewA w.heap.size F ∧ Below w.heap.size w w' := by
 obtain ⟨i0, hi, hz0, hz1, hz2⟩ := info_parts infoIv
 obtain ⟨b, o, A0, d0, A1, d1, rfl, hbb, ⟨c0, c1, c2, c3, c4, c5⟩, u0, u1⟩ := ha.at (j := 0) (by simp)
 obtain ⟨b', o', B0, e0, B1, e1, hAA, _, ⟨k0, k1, k2, k3, k4, k5⟩, v0, v1⟩ := ha.at (j := 1) (by simp)
 injection hAA with hAA
 injection hAA with h1 h2
 subst h1 h2
 simp only [List.getElem_cons_zero, List.getElem_cons_succ, Nat.zero_mul, Nat.add_zero, Nat.one_mul] at c0 c1 c2 c3 c4 c5 k0 k1 k2 k3 k4 k5 u0 u1 v0 v1
 have heq := Lib.run_eql_slice_nil (P := Tryz.prog) w 31 29 (some ⟨b, o, none⟩) 2 c 0 0 Tryz.underlying31
 have hnews : ∀ j u, [Value.bool p0.n0, .bool p0.s0, .slice A0 p0.l0.length d0, .bool p0.n1, .bool p0.s1, .slice A1 p0.l1.length d1, .bool p1.n0, .bool p1.s0, .slice B0 p1.l0.length e0, .bool p1.n1, .bool p1.s1, .slice B1 p1.l1.length e1][j]? = some u → (w.alloc (.cells #[] 29)).cell? ((⟨b, o, none⟩ : Addr).add j) = some u := by
  intro j u h
  have hal := (Below.refl w.heap.size w).alloc (Nat.le_refl _) (.cells #[] 29)
  rw [Addr.add_lit]
  rcases j with _ | _ | _ | _ | _ | _ | _ | _ | _ | _ | _ | _ | j
  all_goals simp at h
  all_goals subst h
  · exact keepC hal c0
  · exact keepC hal c1
  · exact keepC hal c2
  · exact keepC hal c3
  · exact keepC hal c4
  · exact keepC hal c5
  · exact keepC hal k0
  · exact keepC hal k1
  · exact keepC hal k2
  · exact keepC hal k3
  · exact keepC hal k4
  · exact keepC hal k5
 have hown0 : (w.alloc (.cells #[] 29)).ownsRow w.heap.size 29 6 (.slice (some ⟨w.heap.size, 0, none⟩) 0 0) 0 [] := World.ownsRow_made w #[] 0 (Nat.le_refl _) (by simp [maxLen]) rfl
 have HU := hid (And.intro u0 (And.intro u1 (And.intro v0 v1)))
 clear ha c0 c1 c2 c3 c4 c5 k0 k1 k2 k3 k4 k5 u0 u1 v0 v1
 go_enter Tryz.func20, Tryz.ntmps20
 go_wp2_with (at_builtin; go_loud (refine wpList_append_own _ rfl _ _ 31 rfl w.heap.size 29 i0 (.agg #[.bool false, .bool false, .slice none 0 0, .bool false, .bool false, .slice none 0 0]) 6 80 Tryz.underlying31 hi hz0 hz1 hz2 rfl (by omega) (.slice (some ⟨w.heap.size, 0, none⟩) 0 0) 0 [] rfl hown0 ⟨b, o, none⟩ 2 c _ rfl rfl hnews (by simp [Value.oneCell']) (by simp only [maxLen]; omega) (by omega) (by simp) ?_); intro v' w2 hown hgrow hnil)
 have hg2 : (w.alloc (.cells #[] 29)).grownBy w2 (some w.heap.size) := hgrow
 have hb0 : Below w.heap.size w (w.alloc (.cells #[] 29)) := (Below.refl _ w).alloc (Nat.le_refl _) _
 have hB : Below w.heap.size w w2 := hb0.grown hg2 (by simp) (fun k hk => by cases hk; exact Nat.le_refl _)
 obtain ⟨g, cap, rfl, h1, h2⟩ := own_slice hown (by omega)
 have hlt := hown.lt g rfl
 have hc := hown.cells (g := g) rfl
 have HV : IvsAt w2 Z (some ⟨g, 0, none⟩) cap [p0, p1] := by
  refine ⟨by simpa using h1, by simp only [maxLen] at h2; omega, fun _ => ⟨g, 0, rfl, hlt.2, fun j hj => ?_⟩⟩
  have q := fun (j : Nat) (u : Value) (h : ([] ++ [Value.bool p0.n0, .bool p0.s0, .slice A0 p0.l0.length d0, .bool p0.n1, .bool p0.s1, .slice A1 p0.l1.length d1, .bool p1.n0, .bool p1.s0, .slice B0 p1.l0.length e0, .bool p1.n1, .bool p1.s1, .slice B1 p1.l1.length e1])[j]? = some u) => (by have h3 := hc j u h; rw [Addr.add_lit, Nat.zero_add] at h3; exact h3 : w2.cell? ⟨g, j, none⟩ = some u)
  rcases j with _ | _ | j
  · exact ⟨A0, d0, A1, d1, ⟨q 0 _ rfl, q 1 _ rfl, q 2 _ rfl, q 3 _ rfl, q 4 _ rfl, q 5 _ rfl⟩, HU.out.1.below hB, HU.out.2.1.below hB⟩
  · exact ⟨B0, e0, B1, e1, ⟨q 6 _ rfl, q 7 _ rfl, q 8 _ rfl, q 9 _ rfl, q 10 _ rfl, q 11 _ rfl⟩, HU.out.2.2.1.below hB, HU.out.2.2.2.below hB⟩
  · simp at hj
    omega
 have hN : NewA w.heap.size (some ⟨g, 0, none⟩) := fun b o e => by injection e with e; injection e with e _; omega
 clear hown hgrow hnil hnews hown0 heq hc
 go_ret
 exact ⟨_, _, rfl, HV, hN, hB⟩
end Go.Proofs.YtcheajjjdbllfaaGreat
