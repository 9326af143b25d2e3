/- Regions that draw their order: loads may be taken first of cells that are written only behind an operation that waits for them. No conditions. -/
import Derived.OrdersHeld
import Derived.StillTail
import Derived.Test.YtdncgncijbnjpaaGreatRFenceR
set_option linter.unusedVariables false
set_option linter.unusedSimpArgs false
set_option maxRecDepth 100000
set_option maxHeartbeats 40000000
namespace Go.Proofs.YtdncgncijbnjpaaGreat
open Go Go.RowKit
section
variable {P : Program} {ops : Array Oper} {Q : Exit → Act → World → Prop} {md : Region.Mode} {A T : World → Prop} {k : Nat}
def TillK (A T : World → Prop) (k : Nat) (L : Array Bool) (w : World) : Prop := A w ∧ (L.getD k true = false → T w)
def wpAnyL (P : Program) (md : Region.Mode) (ops : Array Oper) (Q : Exit → Act → World → Prop) (A T : World → Prop) (k : Nat) : Nat → Array Bool → Act → World → Prop
 | 0, listed, a, w => Region.ready md ops listed = [] ∧ Q .normal a w
 | fuel + 1, listed, a, w =>
   (Region.ready md ops listed = [] → Q .normal a w) ∧
   ∀ i ∈ Region.ready md ops listed, wpOp P ops Q i (fun a' w' => TillK A T k (listed.setIfInBounds i true) w' ∧ wpAnyL P md ops Q A T k fuel (listed.setIfInBounds i true) a' w') a w
theorem wpAny_of_L : ∀ (fuel : Nat) (listed : Array Bool) (a : Act) (w : World), wpAnyL P md ops Q A T k fuel listed a w → wpAny P md ops Q fuel listed a w
 | 0, _, _, _, h => h
 | fuel + 1, _, _, _, h => ⟨h.1, fun i hi => wpOp_mono (fun a' w' h' => wpAny_of_L fuel _ a' w' h'.2) (h.2 i hi)⟩
theorem getD_stays {L : Array Bool} {i k : Nat} (h : L.getD k true = true) : (L.setIfInBounds i true).getD k true = true := by
 by_cases hik : i = k
 · subst hik
   by_cases hs : i < L.size
   · simp [Array.getD, hs]
   · simp [Array.getD, hs]
 · rw [getD_set_ne true hik]; exact h
theorem wpAnyL_of_H : ∀ (fuel : Nat) (listed : Array Bool) (a : Act) (w : World), listed.getD k true = true → wpAnyH P md ops Q A fuel listed a w → wpAnyL P md ops Q A T k fuel listed a w
 | 0, _, _, _, _, h => h
 | fuel + 1, listed, _, _, hk, h => ⟨h.1, fun i hi => wpOp_mono (fun a' w' h' => ⟨⟨h'.1, fun h0 => (by rw [getD_stays hk] at h0; cases h0)⟩, wpAnyL_of_H fuel _ a' w' (getD_stays hk) h'.2⟩) (h.2 i hi)⟩
theorem wpAnyL_first {i : Nat} {oi : Oper} {v : Value} (hi : ops[i]? = some oi) (hsel : ∀ (j : Nat) (o : Oper) cs b, ops[j]? = some o → o.op ≠ .select cs b)
  (hQ : ∀ c a w, Q (.panic c) (a.put oi.dst v) w → Q (.panic c) a w) (hw : Region.waitsFor md ops k i = true) (hik : i ≠ k) :
  ∀ (fuel : Nat) (listed : Array Bool) (a : Act) (w : World),
   (∀ j oj, ops[j]? = some oj → j ≠ i → listed.getD j true = false → (∀ e ∈ oj.after, Region.binds md e = true → e.on ≠ i) → oi.apart ops oj = true) →
   i ∈ Region.ready md ops listed → listed.getD k true = false → YieldsIf P ops (fun w => A w ∧ T w) oi v a → A w → T w →
   wpAnyL P md ops Q A T k fuel (listed.setIfInBounds i true) (a.put oi.dst v) w → wpAnyL P md ops Q A T k (fuel + 1) listed a w := by
 intro fuel
 induction fuel with
 | zero =>
   intro listed a w _ hr hk hy hA hT H
   refine ⟨fun h => (by rw [h] at hr; cases hr), fun j hj => ?_⟩
   by_cases hji : j = i
   · subst hji; exact hy.wpOp hi ⟨hA, hT⟩ ⟨⟨hA, fun _ => hT⟩, H⟩
   · have := ready_mono hj hji
     rw [H.1] at this
     cases this
 | succ fuel ih =>
   intro listed a w hfree hr hk hy hA hT H
   refine ⟨fun h => (by rw [h] at hr; cases hr), fun j hj => ?_⟩
   by_cases hji : j = i
   · subst hji; exact hy.wpOp hi ⟨hA, hT⟩ ⟨⟨hA, fun _ => hT⟩, H⟩
   · have B := H.2 j (ready_mono hj hji)
     obtain ⟨L, oj, C, U⟩ := mem_ready.1 hj
     have G : ∀ e ∈ oj.after, Region.binds md e = true → e.on ≠ i := fun e E F heq => by
      have B := U e E F
      have I := (mem_ready.1 hr).1
      rw [heq] at B
      rcases Nat.lt_or_ge i listed.size with h' | h'
      · simp [h'] at I B; rw [I] at B; cases B
      · simp [Array.getElem?_eq_none h'] at B
     have J : j ≠ k := fun h => by
      subst h
      obtain ⟨Z, D, e, E, F, V⟩ := Region.waitsFor_spec hw
      rw [C] at D
      injection D with D
      subst D
      exact G e E F V
     have N : (listed.setIfInBounds j true).getD k true = false := by rw [getD_set_ne true J]; exact hk
     have O := wpOp_putIf (S := fun w => A w ∧ T w) C (hfree j oj C hji L G) (fun cs b => hsel i oi cs b hi) (fun cs b => hsel j oj cs b C) hQ hy B
     have R : ∀ l ol, ops[l]? = some ol → l ≠ i → (listed.setIfInBounds j true).getD l true = false →
       (∀ e ∈ ol.after, Region.binds md e = true → e.on ≠ i) → oi.apart ops ol = true := fun l ol hl hli hun hno => by
      refine hfree l ol hl hli ?_ hno
      by_cases hjl : j = l
      · subst hjl; exact L
      · rw [getD_set_ne true hjl] at hun; exact hun
     refine wpOp_mono (fun a' w' h3 => ?_) O
     obtain ⟨W, ⟨M, X⟩, Y⟩ := h3
     have K : T w' := X (by rw [getD_set_ne true J, getD_set_ne true hik]; exact hk)
     refine ⟨⟨M, fun _ => K⟩, ih (listed.setIfInBounds j true) a' w' R (ready_mono hr (Ne.symm hji)) N W M K ?_⟩
     rw [Array.setIfInBounds_comm _ _ hji]
     exact Y
theorem wpAnyL_take {i : Nat} {oi : Oper} {v : Value} {fuel : Nat} {listed : Array Bool} {a : Act} {w : World} (hi : ops[i]? = some oi)
  (hs : Region.noSelect ops = true) (hf : Region.free md ops listed i = true) (hr : (Region.ready md ops listed).contains i = true)
  (hQ : ∀ c a w, Q (.panic c) (a.put oi.dst v) w → Q (.panic c) a w) (hw : Region.waitsFor md ops k i = true) (hik : (i == k) = false) (hk : listed.getD k true = false) (hy : YieldsIf P ops (fun w => A w ∧ T w) oi v a) (hA : A w ∧ T w)
  (h : wpAnyL P md ops Q A T k fuel (listed.setIfInBounds i true) (a.put oi.dst v) w) : wpAnyL P md ops Q A T k (fuel + 1) listed a w :=
 wpAnyL_first hi (Region.noSelect_spec hs) hQ hw (by simpa using hik) fuel listed a w (Region.free_spec hi hf) (by simpa using hr) hk hy hA.1 hA.2 h
theorem wpAnyL_firstA {i : Nat} {oi : Oper} {v : Value} (hi : ops[i]? = some oi) (hsel : ∀ (j : Nat) (o : Oper) cs b, ops[j]? = some o → o.op ≠ .select cs b)
  (hQ : ∀ c a w, Q (.panic c) (a.put oi.dst v) w → Q (.panic c) a w) (hik : i ≠ k) :
  ∀ (fuel : Nat) (listed : Array Bool) (a : Act) (w : World),
   (∀ j oj, ops[j]? = some oj → j ≠ i → listed.getD j true = false → (∀ e ∈ oj.after, Region.binds md e = true → e.on ≠ i) → oi.apart ops oj = true) →
   i ∈ Region.ready md ops listed → YieldsIf P ops A oi v a → TillK A T k listed w →
   wpAnyL P md ops Q A T k fuel (listed.setIfInBounds i true) (a.put oi.dst v) w → wpAnyL P md ops Q A T k (fuel + 1) listed a w := by
 intro fuel
 induction fuel with
 | zero =>
   intro listed a w _ hr hy hA H
   refine ⟨fun h => (by rw [h] at hr; cases hr), fun j hj => ?_⟩
   by_cases hji : j = i
   · subst hji; exact hy.wpOp hi hA.1 ⟨⟨hA.1, fun h => hA.2 (by rw [getD_set_ne true hik] at h; exact h)⟩, H⟩
   · have := ready_mono hj hji
     rw [H.1] at this
     cases this
 | succ fuel ih =>
   intro listed a w hfree hr hy hA H
   refine ⟨fun h => (by rw [h] at hr; cases hr), fun j hj => ?_⟩
   by_cases hji : j = i
   · subst hji; exact hy.wpOp hi hA.1 ⟨⟨hA.1, fun h => hA.2 (by rw [getD_set_ne true hik] at h; exact h)⟩, H⟩
   · have B := H.2 j (ready_mono hj hji)
     obtain ⟨F, oj, C, K⟩ := mem_ready.1 hj
     have G : ∀ e ∈ oj.after, Region.binds md e = true → e.on ≠ i := fun e he hb heq => by
      have B := K e he hb
      have D := (mem_ready.1 hr).1
      rw [heq] at B
      rcases Nat.lt_or_ge i listed.size with h' | h'
      · simp [h'] at D B; rw [D] at B; cases B
      · simp [Array.getElem?_eq_none h'] at B
     have I := wpOp_putIf (S := A) C (hfree j oj C hji F G) (fun cs b => hsel i oi cs b hi) (fun cs b => hsel j oj cs b C) hQ hy B
     have J : ∀ l ol, ops[l]? = some ol → l ≠ i → (listed.setIfInBounds j true).getD l true = false →
       (∀ e ∈ ol.after, Region.binds md e = true → e.on ≠ i) → oi.apart ops ol = true := fun l ol hl hli hun hno => by
      refine hfree l ol hl hli ?_ hno
      by_cases hjl : j = l
      · subst hjl; exact F
      · rw [getD_set_ne true hjl] at hun; exact hun
     refine wpOp_mono (fun a' w' h3 => ?_) I
     obtain ⟨L, ⟨M, N⟩, O⟩ := h3
     have E : TillK A T k (listed.setIfInBounds j true) w' := ⟨M, fun h => N (by rw [Array.setIfInBounds_comm _ _ (Ne.symm hji), getD_set_ne true hik]; exact h)⟩
     refine ⟨E, ih (listed.setIfInBounds j true) a' w' J (ready_mono hr (Ne.symm hji)) L E ?_⟩
     rw [Array.setIfInBounds_comm _ _ hji]
     exact O
theorem wpAnyL_takeA {i : Nat} {oi : Oper} {v : Value} {fuel : Nat} {listed : Array Bool} {a : Act} {w : World} (hi : ops[i]? = some oi)
  (hs : Region.noSelect ops = true) (hf : Region.free md ops listed i = true) (hr : (Region.ready md ops listed).contains i = true)
  (hQ : ∀ c a w, Q (.panic c) (a.put oi.dst v) w → Q (.panic c) a w) (hik : (i == k) = false) (hy : YieldsIf P ops A oi v a) (hA : A w ∧ T w)
  (h : wpAnyL P md ops Q A T k fuel (listed.setIfInBounds i true) (a.put oi.dst v) w) : wpAnyL P md ops Q A T k (fuel + 1) listed a w :=
 wpAnyL_firstA hi (Region.noSelect_spec hs) hQ (by simpa using hik) fuel listed a w (Region.free_spec hi hf) (by simpa using hr) hy ⟨hA.1, fun _ => hA.2⟩ h
theorem anyL_last {fuel : Nat} {listed : Array Bool} {a : Act} {w : World} (hr : Region.ready md ops listed = [k]) (hk : (listed.setIfInBounds k true).getD k true = true)
  (h : wpOp P ops Q k (fun a' w' => A w' ∧ wpAnyH P md ops Q A fuel (listed.setIfInBounds k true) a' w') a w) : wpAnyL P md ops Q A T k (fuel + 1) listed a w :=
 ⟨fun h0 => (by rw [hr] at h0; cases h0), fun j hj => by
  rw [hr] at hj
  obtain rfl := List.mem_singleton.1 hj
  exact wpOp_mono (fun a' w' h' => ⟨⟨h'.1, fun h0 => (by rw [hk] at h0; cases h0)⟩, wpAnyL_of_H fuel _ a' w' hk h'.2⟩) h⟩
theorem wp_region_L {id : Nat} {a : Act} {w : World} (A T : World → Prop) (k : Nat) (hm : P.follows .mixedOrders = true)
  (h : wpAnyL P .any ops Q A T k ops.size (Array.replicate ops.size false) a w.drew) : (Code.region id ops true).wp P Q a w :=
 wp_region_any hm (wpAny_of_L _ _ _ _ h)
end
end Go.Proofs.YtdncgncijbnjpaaGreat
