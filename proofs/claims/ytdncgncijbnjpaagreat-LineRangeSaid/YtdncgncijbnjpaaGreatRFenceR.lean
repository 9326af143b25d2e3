/- Regions that draw their order inside a round of 'for x := range f', walked as outside of it. No conditions. -/
import Derived.RangeFuncNested
import Derived.RangeFuncBound
import Derived.RangeFuncCalls
import Derived.RangeFuncLeaves
import Derived.RangeFuncBox
import Derived.BigRegionIn
import Derived.OrdersHeld
import Derived.WalkKit
set_option linter.unusedVariables false
set_option linter.unusedSimpArgs false
set_option maxRecDepth 100000
set_option maxHeartbeats 40000000
namespace Go.Proofs.YtdncgncijbnjpaaGreat
open Go.RowKit
variable {B b g i j : Nat} {W w2 : World} {t : TypeId} {v x : Value}
theorem operIn_of {P : Program} {Q : Exit → Act → World → Prop} {K : Act → World → Prop} {o : Oper} {a : Act} {w : World} {l n : Nat} (hd : ∀ c, o.op ≠ .defer c) (hL : ¬ LetsOut Q) (h : o.wp P a w K Q) : o.wpIn (Fence.wide.inRound l) n P a w K Q := by
 unfold Oper.wp at h
 unfold Oper.wpIn
 refine ⟨fun f _ => trivial, ?_⟩
 show o.uponIn _ _ _ _ _ _ ((o.semAt (some l) a.eval).run P w)
 rw [Oper.semAt_some l _ _ hd]
 generalize (execOp a.eval o).run P w = r at *
 cases r with
 | ok x w' =>
   cases x with
   | value v => exact h
   | skip => exact h
   | defer d => exact h
   | enter f args =>
     refine ⟨(fun e => by cases e), ?_⟩
     refine CallsIn.inRound l (callsIn_wide.2 (Calls.mono h fun e A hh => ?_))
     cases e with
     | returned v => exact hh
     | panicked c => exact hh
     | outgrown => exact hh
   | row row args =>
     refine ⟨(fun e => by cases e), fun c cs _ => ?_⟩
     obtain ⟨v, A, r, s⟩ := h c cs
     exact ⟨v, A, r, (stepsIn_wide (P := P)).2 s⟩
   | _ => exact h.elim
 | halt x w' =>
   cases x with
   | panic v => exact h
   | _ => exact h.elim
def plainOps (ops : Array Oper) : Bool := ops.all fun o => match o.op with | .defer _ => false | _ => true
theorem plainOps_spec {ops : Array Oper} (h : plainOps ops = true) {o : Oper} (hi : ops[i]? = some o) : ∀ c, o.op ≠ .defer c := fun c e => by
 have A := Array.all_eq_true_iff_forall_mem.1 h o (Array.mem_of_getElem? hi)
 rw [e] at A
 cases A
theorem opIn_of {P : Program} {ops : Array Oper} {Q : Exit → Act → World → Prop} {K K' : Act → World → Prop} {a : Act} {w : World} {l n : Nat} (hp : plainOps ops = true) (hL : ¬ LetsOut Q) (hK : ∀ a w, K a w → K' a w) (h : wpOp P ops Q i K a w) : wpOpIn (Fence.wide.inRound l) n P ops Q i K' a w := by
 unfold wpOp at h
 unfold wpOpIn
 cases hi : ops[i]? with
 | none =>
   simp only [hi] at h
   exact hK _ _ h
 | some o =>
   simp only [hi] at h ⊢
   split at h
   · rename_i hw
     rw [if_pos hw]
     rcases h with h | ⟨_, h⟩
     · refine operIn_of (plainOps_spec hp hi) hL ?_
       unfold Oper.wp at h ⊢
       generalize (execOp a.eval o).run P w = r at *
       cases r with
       | ok x w' =>
         cases x with
         | value v => exact hK _ _ h
         | skip => exact hK _ _ h
         | defer d => exact hK _ _ h
         | enter f args =>
           refine Calls.mono h fun e w'' hh => ?_
           cases e with
           | returned v => exact hK _ _ hh
           | panicked c => exact hh
           | outgrown => exact hh
         | row row args => exact Rows.mono h fun u w'' he => hK _ _ he
         | _ => exact h.elim
       | halt x w' =>
         cases x with
         | panic v => exact h
         | _ => exact h.elim
     · exact absurd h hL
   · rename_i hw
     rw [if_neg hw]
     exact ⟨fun f _ => trivial, hK _ _ h⟩
theorem anyIn_of {P : Program} {ops : Array Oper} {md : Region.Mode} {Q : Exit → Act → World → Prop} {l n : Nat} (hp : plainOps ops = true) (hL : ¬ LetsOut Q) :
  ∀ (fuel : Nat) (listed : Array Bool) (a : Act) (w : World), wpAny P md ops Q fuel listed a w → wpAnyIn (Fence.wide.inRound l) n P md ops Q fuel listed a w
 | 0, _, _, _, h => h
 | fuel + 1, _, _, _, h => ⟨h.1, fun i hi => opIn_of hp hL (fun a w hh => anyIn_of hp hL fuel _ a w hh) (h.2 i hi)⟩
theorem wpIn_region_heldR {P : Program} {ops : List Oper} {id : Nat} {Q : Exit → Act → World → Prop} {a : Act} {w : World} {l n : Nat} (S : World → Prop) (hm : P.follows .mixedOrders = true) (hp : plainOps ops.toArray = true) (hL : ¬ LetsOut Q)
  (h : wpAnyH P .any ops.toArray Q S ops.toArray.size (Array.replicate ops.toArray.size false) a w.drew) : (Code.region id ops.toArray true).wpIn (Fence.wide.inRound l) n P Q a w :=
 wpIn_region_any hm (anyIn_of hp hL _ _ _ _ (wpAny_of_held _ _ _ _ h))
theorem wpOp_step {P : Program} {ops : Array Oper} {Q : Exit → Act → World → Prop} {K : Act → World → Prop} {o : Oper} {a : Act} {w : World} (hi : ops[i]? = some o) (hw : Region.wanted o (yielded ops a.tmps) = true)
  (h : ∀ K' : Act → World → Prop, (∀ a w, K a w → K' a w) → o.wp P a w K' Q) : wpOp P ops Q i K a w := by
 unfold wpOp
 simp only [hi, hw, if_true]
 exact .inl (h _ fun _ _ h => h)
theorem anyH_one {P : Program} {ops : Array Oper} {md : Region.Mode} {Q : Exit → Act → World → Prop} {S : World → Prop} {fuel : Nat} {listed : Array Bool} {a : Act} {w : World} (hr : Region.ready md ops listed = [i])
  (h : wpOp P ops Q i (fun a' w' => S w' ∧ wpAnyH P md ops Q S fuel (listed.setIfInBounds i true) a' w') a w) : wpAnyH P md ops Q S (fuel + 1) listed a w :=
 wpAnyH_all hr (by simp) (fun j hj => by obtain rfl := List.mem_singleton.1 hj; exact h)
theorem st1 {w : World} (h : w.cell? ⟨g, i, none⟩ = some v) (hn : b ≠ g) : (w.setCell ⟨b, j, none⟩ x).cell? ⟨g, i, none⟩ = some v := by
 rw [World.cell?_setCell_other _ _ _ _ (fun e => hn (by injection e))]
 exact h
theorem fz1 {w : World} (h : w.frozen? ⟨g, i, none⟩ = false) : (w.setCell ⟨b, j, none⟩ x).frozen? ⟨g, i, none⟩ = false := (World.frozen?_setCell _ _ _ _).trans h
theorem keepsOthers_below (h : Below W.heap.size W w2) : KeepsOthers W w2 := ⟨h.size, fun k o hk _ => (h.block k (Array.getElem?_eq_some_iff.1 hk).1).trans hk⟩
theorem Boxed.below_ (h : Boxed W B t v) (hb : Below W.heap.size W w2) : Boxed w2 B t v := (hb.block B h.lt).trans h
theorem Boxed.store_ {u : Value} (h : Boxed W B t v) (hn : B ≠ b) : Boxed (W.setCell ⟨b, j, none⟩ u) B t v := (Below.heap_setCell _ _ _ _ hn).trans h
end Go.Proofs.YtdncgncijbnjpaaGreat
