/- The document's own answer, layer 5: Times, Turned. No conditions but bounds on lengths. -/
import Derived.Deep.RegionLaw
import Derived.Test.YthpngihjcphigaaGreatVWhJ
import Derived.Test.YthpngihjcphigaaGreatVWhF
import Derived.Test.YthpngihjcphigaaGreatVRefO
import Derived.Test.YthpngihjcphigaaGreatVClone
set_option linter.unusedVariables false
set_option linter.unusedSimpArgs false
set_option maxRecDepth 100000
set_option maxHeartbeats 40000000
namespace Go.Proofs.YthpngihjcphigaaGreat
open Go.Lib (hid)
open Go.RowKit
theorem r5times_good {w : World} {Z Y : Zone} {a b : Value} {s t : Bool} {l k : List Nat} (ha : IsI w Z a s l) (hb : IsI w Y b t k) (h1 : okI s l = true) (h2 : okI t k = true) (hl : l.length ≤ 90000000000) (hl2 : k.length ≤ 90000000000) :
  Calls Tryz.prog 98 #[a, b] w fun e w' => ∃ v, e = .returned v ∧ IsZ w' (new w.heap.size) v (zof s l * zof t k) ∧ Below w.heap.size w w' := by
 obtain ⟨_, rfl, A, ca, rfl, hu⟩ := ha
 obtain ⟨_, rfl, B, cb, rfl, hv⟩ := hb
 have hsa := hu.small
 have hsb := hv.small
 have hga := (okI_cases h1 hsa).1
 have hgb := (okI_cases h2 hsb).1
 have na : IsN w Z (.slice A l.length ca) (val l) := IsU.num ⟨A, ca, rfl, hu⟩ hga
 have nb : IsN w Y (.slice B k.length cb) (val k) := IsU.num ⟨B, cb, rfl, hv⟩ hgb
 have k1 : (limbs (val l)).length = l.length := by rw [limbs_val l hsa hga]
 have k2 : (limbs (val k)).length = k.length := by rw [limbs_val k hsb hgb]
 obtain ⟨hsg, habs⟩ := mul_enc h1 h2 hsa hsb
 unfold IsZ
 rw [habs]
 obtain ⟨sz, hsz⟩ : ∃ sz, sz = decide (zof s l * zof t k < 0) := ⟨_, rfl⟩
 obtain ⟨P, hP⟩ : ∃ P, P = val l * val k := ⟨_, rfl⟩
 rw [← hsz, ← hP] at hsg
 rw [← hsz, ← hP]
 obtain ⟨bA, bB, bR, hB0⟩ := boxes3 w (.bool s) (.slice A l.length ca) (.bool t) (.slice B k.length cb) (.bool false) (.slice none 0 0) 25
 obtain ⟨a0, a1, _, _, _⟩ := bA
 obtain ⟨b0, b1, _, _, _⟩ := bB
 have ht := rtimes_good (na.below hB0) (nb.below hB0) (by omega) (by omega)
 rw [← hP] at ht
 have Ht := hid ht
 have hcase : (s = t ∧ sz = false) ∨ (((s = true ∧ t = false) ∨ (s = false ∧ t = true)) ∧ sz = decide (0 < (limbs P).length)) := by
  cases s <;> cases t <;> simp_all
 clear hsg habs hsz hP ht na nb hu hv h1 h2 hga hgb
 rcases hcase with ⟨rfl, rfl⟩ | ⟨hst, hsz⟩
 · go_enter Tryz.func98, Tryz.ntmps98
   go_wp2_with fail
   refine Ht.out.mono ?_
   rintro e w1 ⟨_, rfl, ⟨Av, cv, rfl, hv⟩, hc1⟩
   have a0 := keepC hc1 a0
   have b0 := keepC hc1 b0
   have bR1 := bR.below hc1
   have hQ := bR1.put (from_ hB0 hc1) (by omega) (.bool false) (.slice Av (limbs P).length cv)
   have hu2 := hQ.keep (by simp) (⟨Av, cv, rfl, hv⟩ : IsU w1 _ (.slice Av (limbs P).length cv) (limbs P))
   obtain ⟨Hu, HP⟩ := hid2 hu2 hQ
   obtain ⟨q0, q1, f0, f1, _⟩ := bR1
   clear hv hu2 hQ bR hB0
   go_wp2
   refine bodyPost_ret (res_int rfl _ (w.heap.size + 2) rfl HP.out.c0 HP.out.c1) rfl ?_
   exact ⟨_, rfl, ⟨_, rfl, Hu.out⟩, HP.out.bel⟩
 · rcases hst with ⟨rfl, rfl⟩ | ⟨rfl, rfl⟩
   all_goals
    cases hd : decide (0 < (limbs P).length)
    all_goals
     rw [hd] at hsz
     subst hsz
     have hdi : decide ((0 : Int) < ((limbs P).length : Int)) = decide (0 < (limbs P).length) := decide_eq_decide.2 (by omega)
     rw [hd] at hdi
     go_enter Tryz.func98, Tryz.ntmps98
     go_wp2_with fail
     refine Ht.out.mono ?_
     rintro e w1 ⟨_, rfl, ⟨Av, cv, rfl, hv⟩, hc1⟩
     have a0 := keepC hc1 a0
     have b0 := keepC hc1 b0
     have bR1 := bR.below hc1
     have hQ := fun sz => bR1.put (from_ hB0 hc1) (by omega) (.bool sz) (.slice Av (limbs P).length cv)
     have hu2 := fun sz => (hQ sz).keep (by simp) (⟨Av, cv, rfl, hv⟩ : IsU w1 _ (.slice Av (limbs P).length cv) (limbs P))
     obtain ⟨Hu, HP⟩ := hid2 hu2 hQ
     obtain ⟨q0, q1, f0, f1, _⟩ := bR1
     clear hv hu2 hQ bR hB0
     go_wp2
     refine bodyPost_ret (res_int rfl _ (w.heap.size + 2) rfl (HP.out _).c0 (HP.out _).c1) rfl ?_
     exact ⟨_, rfl, ⟨_, rfl, Hu.out _⟩, (HP.out _).bel⟩
end Go.Proofs.YthpngihjcphigaaGreat
