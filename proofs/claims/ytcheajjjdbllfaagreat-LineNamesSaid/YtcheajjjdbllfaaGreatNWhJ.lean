/- slices.Equal of words, whole.Same. No conditions. -/
import Derived.Test.YtcheajjjdbllfaaGreatNWhC
import Derived.Test.YtcheajjjdbllfaaGreatNRefI
import Derived.Test.YtcheajjjdbllfaaGreatNRefE
import Derived.Test.YtcheajjjdbllfaaGreatNWhF
import Derived.Test.YtcheajjjdbllfaaGreatNRefA
set_option linter.unusedVariables false
set_option linter.unusedSimpArgs false
set_option maxRecDepth 100000
set_option maxHeartbeats 40000000
namespace Go.Proofs.YtcheajjjdbllfaaGreat
open Go.Lib (hid)
open Go.RowKit
variable {B g : Nat} {Y Z : Zone} {a b u v : Value} {w w' : World} {xs : List Value}
theorem boxes2 (w : World) (a0 a1 b0 b1 : Value) (t : TypeId) :
  Box ((w.alloc (.cells #[a0, a1] t)).alloc (.cells #[b0, b1] t)) w.heap.size a0 a1 ∧
  Box ((w.alloc (.cells #[a0, a1] t)).alloc (.cells #[b0, b1] t)) (w.heap.size + 1) b0 b1 ∧
  Below w.heap.size w ((w.alloc (.cells #[a0, a1] t)).alloc (.cells #[b0, b1] t)) := by
 have h1 := (Box.new w a0 a1 t).alloc (.cells #[b0, b1] t)
 have h2 := Box.new (w.alloc (.cells #[a0, a1] t)) b0 b1 t
 rw [show (w.alloc (.cells #[a0, a1] t)).heap.size = w.heap.size + 1 by simp] at h2
 exact ⟨h1, h2, ((Below.refl _ w).alloc (Nat.le_refl _) _).alloc (by simp) _⟩
theorem own_below {base : Nat} {e : TypeId} {size : Nat} {n : Nat} (h : w.ownsRow base e size v n xs) (hb : Below w.heap.size w w') : w'.ownsRow base e size v n xs := by
 refine ⟨h.1, ?_⟩
 rcases h.2 with h1 | ⟨g, cap, cur, e1, hg, hh, hr⟩
 · exact .inl h1
 · refine .inr ⟨g, cap, cur, e1, hg, ?_, hr⟩
   rw [hb.block g]
   · exact hh
   · by_cases hlt : g < w.heap.size
     · exact hlt
     · rw [Array.getElem?_eq_none (by omega)] at hh
       cases hh
def IsVs (w : World) (v : Value) (zs : List Int) : Prop := ∃ A c, v = .slice A zs.length c ∧ zs.length ≤ c ∧ c ≤ 9223372036854775807 ∧
 (0 < zs.length → ∃ g, A = some ⟨g, 0, none⟩ ∧ g < w.heap.size ∧ ∀ j (hj : j < zs.length), ∃ u, w.cell? ⟨g, j * 2, none⟩ = some (.bool (decide (zs[j] < 0))) ∧ w.cell? ⟨g, j * 2 + 1, none⟩ = some u ∧ IsU w old u (limbs zs[j].natAbs))
theorem IsVs.below {zs : List Int} (h : IsVs w v zs) (hb : Below w.heap.size w w') : IsVs w' v zs := by
 obtain ⟨A, c, e, h1, h2, h3⟩ := h
 refine ⟨A, c, e, h1, h2, fun h0 => ?_⟩
 obtain ⟨g, e1, hg, hc⟩ := h3 h0
 refine ⟨g, e1, Nat.lt_of_lt_of_le hg hb.size, fun j hj => ?_⟩
 obtain ⟨u, c0, c1, hu⟩ := hc j hj
 exact ⟨u, keepC hb c0, keepC hb c1, hu.below hb⟩
def but (g : Nat) : Zone := ⟨fun b => b ≠ g, False⟩
def CellsI (w : World) (g : Nat) (xs : List Value) (k : Nat) (zs : List Int) : Prop :=
 ∀ j (hj : j < zs.length), j < k → ∃ u, xs[j * 2]? = some (.bool (decide (zs[j] < 0))) ∧ xs[j * 2 + 1]? = some u ∧ IsU w (but g) u (limbs zs[j].natAbs)
theorem CellsI.keep {k : Nat} {zs : List Int} (h : CellsI w g xs k zs) (hk : ∀ b, b ≠ g → b < w.heap.size → w'.heap[b]? = w.heap[b]?) : CellsI w' g xs k zs := fun j hj hjk => by
 obtain ⟨u, c0, c1, hu⟩ := h j hj hjk
 exact ⟨u, c0, c1, hu.keep fun b hb hl => hk b hb hl⟩
theorem CellsI.put {k : Nat} {zs : List Int} (h : CellsI w g xs k zs) (hl : xs.length = zs.length * 2) (hk : k < zs.length)
  (hu : IsU w (but g) u (limbs (zs[k]).natAbs)) (hw : ∀ b, b ≠ g → b < w.heap.size → w'.heap[b]? = w.heap[b]?) :
  CellsI w' g ((xs.set (k * 2) (.bool (decide (zs[k] < 0)))).set (k * 2 + 1) u) (k + 1) zs := fun j hj hjk => by
 rcases Nat.lt_or_ge j k with h1 | h1
 · obtain ⟨u', c0, c1, hu'⟩ := h j hj h1
   refine ⟨u', ?_, ?_, hu'.keep fun b hb hl => hw b hb hl⟩
   · rw [List.getElem?_set_ne (by omega), List.getElem?_set_ne (by omega)]
     exact c0
   · rw [List.getElem?_set_ne (by omega), List.getElem?_set_ne (by omega)]
     exact c1
 · obtain rfl : j = k := by omega
   refine ⟨u, ?_, ?_, hu.keep fun b hb hl => hw b hb hl⟩
   · rw [List.getElem?_set_ne (by omega), List.getElem?_set_self (by omega)]
   · rw [List.getElem?_set_self (by rw [List.length_set]; omega)]
def Typ (w : World) (B : Nat) (u : Value) : Prop := ∀ a n c, u = .slice (some a) n c → B ≤ a.block ∧ ∃ cs fr, w.heap[a.block]? = some (.cells cs 76 fr)
theorem Typ.keep (h : Typ w B u) (hg : ∃ cs fr, w.heap[g]? = some (.cells cs 25 fr)) (hk : ∀ b, b ≠ g → b < w.heap.size → w'.heap[b]? = w.heap[b]?) : Typ w' B u := fun a n c e => by
 obtain ⟨h0, cs, fr, h1⟩ := h a n c e
 refine ⟨h0, cs, fr, ?_⟩
 rw [hk]
 · exact h1
 · intro e2
   obtain ⟨cs2, fr2, h2⟩ := hg
   rw [← e2, h1] at h2
   injection h2 with h2
   injection h2 with _ h3
   exact absurd h3 (by decide)
 · by_cases hlt : a.block < w.heap.size
   · exact hlt
   · rw [Array.getElem?_eq_none (by omega)] at h1
     cases h1
theorem Typ.below (h : Typ w B u) (hb : Below w.heap.size w w') : Typ w' B u := fun a n c e => by
 obtain ⟨h0, cs, fr, h1⟩ := h a n c e
 refine ⟨h0, cs, fr, ?_⟩
 rw [hb.block]
 · exact h1
 · by_cases hlt : a.block < w.heap.size
   · exact hlt
   · rw [Array.getElem?_eq_none (by omega)] at h1
     cases h1
theorem Typ.apart {l : List Nat} (h : Typ w B u) (hg : ∃ cs fr, w.heap[g]? = some (.cells cs 25 fr)) (hu : IsU w Z u l) : IsU w (but g) u l := by
 obtain ⟨A, c, rfl, hs, hcap, hmax, hnul, hrow⟩ := hu
 refine ⟨A, c, rfl, hs, hcap, hmax, hnul, fun h0 => ?_⟩
 obtain ⟨b, o, e, _, _, hc⟩ := hrow h0
 refine ⟨b, o, e, fun e2 => ?_, fun h => h.elim, hc⟩
 obtain ⟨_, cs, fr, h1⟩ := h ⟨b, o, none⟩ _ _ (by rw [e])
 obtain ⟨cs2, fr2, h2⟩ := hg
 subst e2
 rw [h2] at h1
 injection h1 with h1
 injection h1 with _ h3
 exact absurd h3 (by decide)
theorem equal_dec {la lb : List Nat} (ha : IsU w Z a la) (hb : IsU w Y b lb) :
  Calls Tryz.prog 24 #[a, b] w fun e w' => e = .returned (.bool (decide (la = lb))) ∧ Below w.heap.size w w' := by
 obtain ⟨A, ca, rfl, ha⟩ := ha
 obtain ⟨A', cb, rfl, hb⟩ := hb
 have h1 := ha.len
 have h2 := hb.len
 by_cases hl : la.length = lb.length
 · have hne : ((la.length : Int) != (lb.length : Int)) = false := by simp [hl]
   have Hl := hid hl
   have hl1 : la.length ≤ lb.length := by omega
   have hl2 : lb.length ≤ la.length := by omega
   clear hl
   go_enter Tryz.func24, Tryz.ntmps24
   go_wp2
   go_loopw [13] (fun i wr => ∃ k : Nat, k ≤ la.length ∧ i = .int .i64 k ∧ la.take k = lb.take k ∧ Below w.heap.size w wr) (fun i _ => la.length - (intOf i).toNat)
   case atStart => exact ⟨0, Nat.zero_le _, rfl, by simp, Below.refl _ _⟩
   case round =>
    obtain ⟨k, hk, rfl, htk, hbel⟩ := hrel
    have Htk := hid htk
    clear htk
    by_cases hlt : k < la.length
    · have hlt' : k < lb.length := by omega
      obtain ⟨b1, o1, rfl, _, hb1, _, hc1⟩ := ha.open (by omega)
      obtain ⟨b2, o2, rfl, _, hb2, _, hc2⟩ := hb.open (by omega)
      have x1 := (hbel.cell (p := ⟨b1, o1 + k, none⟩) hb1).trans (hc1 k hlt)
      have x2 := (hbel.cell (p := ⟨b2, o2 + k, none⟩) hb2).trans (hc2 k hlt')
      have hs1 : la.take (k + 1) = la.take k ++ [la[k]] := by rw [List.take_succ_eq_append_getElem hlt]
      have hs2 : lb.take (k + 1) = lb.take k ++ [lb[k]] := by rw [List.take_succ_eq_append_getElem hlt']
      obtain ⟨Hs1, Hs2⟩ := hid2 hs1 hs2
      clear hs1 hs2 hc1 hc2
      by_cases he : la[k] = lb[k]
      · have hx : ((la[k] : Int) != (lb[k] : Int)) = false := by simp [he]
        have He := hid he
        clear he
        go_wp2
        go_quiet (fail)
        go_wp2
        go_roundw
        case rel => exact ⟨k + 1, by omega, by go_num, by rw [Hs1.out, Hs2.out, Htk.out, He.out], below_drewN' hbel _⟩
        case measure => simp [intOf]; omega
      · have hx : ((la[k] : Int) != (lb[k] : Int)) = true := by simp; omega
        have hn : la ≠ lb := fun e => he (by subst e; rfl)
        have Hn := hid (decide_eq_false hn)
        clear he hn
        go_wp2
        go_quiet (fail)
        go_wp2
        go_ret
        rw [Hn.out]
        exact ⟨rfl, below_drewN' hbel _⟩
    · obtain rfl : k = la.length := by omega
      go_wp2
      go_ret
      have e := Htk.out
      rw [List.take_length, Hl.out, List.take_length] at e
      rw [decide_eq_true e]
      exact ⟨rfl, hbel⟩
 · have hne : ((la.length : Int) != (lb.length : Int)) = true := by simp; omega
   have hn : la ≠ lb := fun e => hl (by rw [e])
   have Hn := hid (decide_eq_false hn)
   clear hl hn
   go_enter Tryz.func24, Tryz.ntmps24
   go_wp2
   go_ret
   rw [Hn.out]
   exact ⟨rfl, Below.refl _ _⟩
theorem wsame_any {s t : Bool} {l k : List Nat} (ha : IsI w Z a s l) (hb : IsI w Y b t k) :
  Calls Tryz.prog 13 #[a, b] w fun e w' => e = .returned (.bool (decide (s = t ∧ l = k))) ∧ Below w.heap.size w w' := by
 obtain ⟨_, rfl, A, ca, rfl, hu⟩ := ha
 obtain ⟨_, rfl, B, cb, rfl, hv⟩ := hb
 have ua : IsU w Z (.slice A l.length ca) l := ⟨A, ca, rfl, hu⟩
 have ub : IsU w Y (.slice B k.length cb) k := ⟨B, cb, rfl, hv⟩
 obtain ⟨bA, bB, hB0⟩ := boxes2 w (.bool s) (.slice A l.length ca) (.bool t) (.slice B k.length cb) 25
 obtain ⟨a0, a1, _, _, _⟩ := bA
 obtain ⟨b0, b1, _, _, _⟩ := bB
 have HB := hid hB0
 clear hu hv
 by_cases hst : s = t
 · subst hst
   have hsame := equal_dec (ua.below hB0) (ub.below hB0)
   have e : decide (s = s ∧ l = k) = decide (l = k) := by simp
   rw [e]
   have Hs := hid hsame
   clear hsame ua ub hB0
   cases s
   all_goals
    go_enter Tryz.func13, Tryz.ntmps13
    go_wp2_with fail
    refine Hs.out.mono ?_
    rintro e w1 ⟨rfl, hb1⟩
    go_wp2
    go_ret
    exact ⟨rfl, from_ HB.out hb1⟩
 · have e : decide (s = t ∧ l = k) = false := by simp [hst]
   rw [e]
   clear ua ub hB0
   rcases (show (s = true ∧ t = false) ∨ (s = false ∧ t = true) by cases s <;> cases t <;> simp_all) with ⟨rfl, rfl⟩ | ⟨rfl, rfl⟩
   all_goals
    go_enter Tryz.func13, Tryz.ntmps13
    go_wp2
    go_ret
    exact ⟨rfl, HB.out⟩
end Go.Proofs.YtcheajjjdbllfaaGreat
