/-
  facetroomlaw16.ItvSound, walked: all ways. No conditions.
-/
import Derived.Test.YtennphechbngcaaGreatLLsdB
import Derived.Test.YtennphechbngcaaGreatLItwU
import Derived.Test.YtennphechbngcaaGreatLFrameI
namespace Go.Proofs.YtennphechbngcaaGreat
open Go.RowKit
set_option linter.unusedVariables false
set_option linter.unusedSimpArgs false
theorem lawItvSound {w : World} {a b n m : Value} {p q : Iv} {sn sm : Bool} {ln lm : List Nat} (ha : IsItv w old a p) (hb : IsItv w old b q) (hn : IsI w old n sn ln) (hm : IsI w old m sm lm) : Calls Tryz.prog 3 #[a, b, n, m] w fun e w' => e = .returned (.bool true) ∧ Below w.heap.size w w' := by
  by_cases k1 : gtI p 4 = true
  · exact lsd_g1 ha hb hn hm k1
  replace k1 := Bool.eq_false_iff.2 k1
  by_cases k2 : gtI q 4 = true
  · exact lsd_g2 ha hb hn hm k1 k2
  replace k2 := Bool.eq_false_iff.2 k2
  by_cases k3 : 4 < ln.length
  · exact lsd_g3 ha hb hn hm k1 k2 k3
  by_cases k4 : 4 < lm.length
  · exact lsd_g4 ha hb hn hm k1 k2 k3 k4
  by_cases hg : (p.ok = true ∧ okI sn ln = true ∧ p.lo ≤ zof sn ln ∧ zof sn ln ≤ p.hi) ∧ (q.ok = true ∧ okI sm lm = true ∧ q.lo ≤ zof sm lm ∧ zof sm lm ≤ q.hi)
  · obtain ⟨⟨op, on, i1, i2⟩, oq, om, i3, i4⟩ := hg
    have sp : Small p.l0 ∧ Small p.l1 := by obtain ⟨_, _, _, _, _, u, v⟩ := ha; exact ⟨u.small, v.small⟩
    have sq : Small q.l0 ∧ Small q.l1 := by obtain ⟨_, _, _, _, _, u, v⟩ := hb; exact ⟨u.small, v.small⟩
    have s4 : Small ln := by obtain ⟨_, _, _, _, _, u⟩ := hn; exact u.small
    have s5 : Small lm := by obtain ⟨_, _, _, _, _, u⟩ := hm; exact u.small
    have l1 := gtI_no k1
    have l2 := gtI_no k2
    obtain ⟨wp, gp⟩ := itw_of op sp.1 sp.2 l1.1 l1.2 (by omega)
    obtain ⟨wq, gq⟩ := itw_of oq sq.1 sq.2 l2.1 l2.2 (by omega)
    have nx := nm_zof on s4
    have ny := nm_zof om s5
    by_cases hs : smB sm lm = true ∧ 0 ≤ smX sm lm ∧ smX sm lm ≤ 63
    · have e := sm_int hs.1
      exact lsd_s ha hb hn hm k1 k2 (by omega) (by omega) wp gp wq gq nx ny ⟨i1, i2⟩ ⟨i3, i4⟩ (k := (smX sm lm).toNat) (by omega) (by omega) hs.1 (by omega)
    · refine lsd_n ha hb hn hm k1 k2 (by omega) (by omega) wp gp wq gq nx ny ⟨i1, i2⟩ ⟨i3, i4⟩ ?_
      cases h : smB sm lm
      · exact .inl rfl
      · by_cases h1 : 0 ≤ smX sm lm
        · exact .inr (.inr ⟨rfl, h1, fun h2 => hs ⟨h, h1, h2⟩⟩)
        · exact .inr (.inl ⟨rfl, h1⟩)
  · refine lsd_h ha hb hn hm k1 k2 (by omega) (by omega) ?_
    rintro r1 r2 e1 e2 ⟨_, h1, h2, h3⟩ ⟨_, h4, h5, h6⟩
    cases r1
    · rfl
    · cases r2
      · rfl
      · have a1 := of_decide_eq_true h3.symm
        have a2 := of_decide_eq_true h6.symm
        exact absurd ⟨⟨h1, h2, a1.1, a1.2⟩, h4, h5, a2.1, a2.2⟩ hg

end Go.Proofs.YtennphechbngcaaGreat
