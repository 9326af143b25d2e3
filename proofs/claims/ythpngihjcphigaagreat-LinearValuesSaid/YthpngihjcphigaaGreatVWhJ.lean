/- slices.Equal of words, whole.Same. No conditions. -/
import Derived.Test.YthpngihjcphigaaGreatVWhC
import Derived.Test.YthpngihjcphigaaGreatVRefI
import Derived.Test.YthpngihjcphigaaGreatVRefE
import Derived.Test.YthpngihjcphigaaGreatVWhF
import Derived.Test.YthpngihjcphigaaGreatVRefA
set_option linter.unusedVariables false
set_option linter.unusedSimpArgs false
set_option maxRecDepth 100000
set_option maxHeartbeats 40000000
namespace Go.Proofs.YthpngihjcphigaaGreat
open Go.Lib (hid)
open Go.RowKit
variable {B g : Nat} {Z : Zone} {a u v : Value} {l : List Nat} {s : Bool} {w w' : World} {xs : List Value}
theorem r05of_any {n : Int} (hn : -9223372036854775808 ≤ n ∧ n ≤ 9223372036854775807) :
  Calls Tryz.prog 49 #[.int .i64 n] w fun e w' => ∃ v, e = .returned v ∧ IsZ w' (new w.heap.size) v n ∧ Below w.heap.size w w' := by
 obtain ⟨m, hm⟩ : ∃ m, m = n.natAbs := ⟨_, rfl⟩
 have hmW : m < 18446744073709551616 := by omega
 have hb0 : Below w.heap.size w (w.alloc (.cells #[.bool false, .slice none 0 0] 25)) := (Below.refl _ w).alloc (Nat.le_refl _) _
 have box0 := Box.new w (.bool false) (.slice none 0 0) 25
 unfold IsZ
 rw [← hm]
 by_cases hneg : n < 0
 · obtain ⟨k, hk⟩ : ∃ k : Nat, (k : Int) = n + 18446744073709551616 := ⟨(n + 18446744073709551616).toNat, by omega⟩
   have e1 : IntKind.u64.wrap n = (k : Int) := by rw [IntKind.wrap_u64]; omega
   have e2 : IntKind.u64.wrap (-(k : Int)) = (m : Int) := by rw [IntKind.wrap_u64]; omega
   have e3 : IntKind.u64.wrap (0 - (k : Int)) = (m : Int) := by rw [IntKind.wrap_u64]; omega
   rw [decide_eq_true (p := n < 0) hneg]
   clear hm hk
   go_enter Tryz.func49, Tryz.ntmps49
   go_wp2_with fail
   refine (rof_any hmW).mono ?_
   rintro e w1 ⟨u, rfl, ⟨Au, cu, rfl, hu'⟩, hb1⟩
   have hu : IsU w1 (new (w.alloc (.cells #[.bool false, .slice none 0 0] 25)).heap.size) (.slice Au (limbs m).length cu) (limbs m) := ⟨Au, cu, rfl, hu'⟩
   have box1 := box0.below hb1
   have hB := from_ hb0 hb1
   have hP := box1.put hB (Nat.le_refl _) (.bool true) (.slice Au (limbs m).length cu)
   have hu2 := hP.keep (by simp) hu
   obtain ⟨Hu, HP⟩ := hid2 hu2 hP
   obtain ⟨q0, q1, f0, f1, _⟩ := box1
   clear hu hu' hu2 hP hb0 e1 e2 e3
   go_wp2
   refine bodyPost_ret (res_int rfl _ w.heap.size rfl HP.out.c0 HP.out.c1) rfl ?_
   exact ⟨_, rfl, ⟨_, rfl, Hu.out⟩, HP.out.bel⟩
 · have e1 : IntKind.u64.wrap n = (m : Int) := by rw [IntKind.wrap_u64]; omega
   have hd : decide (n < 0) = false := decide_eq_false hneg
   rw [hd]
   clear hm hneg
   go_enter Tryz.func49, Tryz.ntmps49
   go_wp2_with fail
   refine (rof_any hmW).mono ?_
   rintro e w1 ⟨u, rfl, ⟨Au, cu, rfl, hu'⟩, hb1⟩
   have hu : IsU w1 (new (w.alloc (.cells #[.bool false, .slice none 0 0] 25)).heap.size) (.slice Au (limbs m).length cu) (limbs m) := ⟨Au, cu, rfl, hu'⟩
   have box1 := box0.below hb1
   have hB := from_ hb0 hb1
   have hP := box1.put hB (Nat.le_refl _) (.bool false) (.slice Au (limbs m).length cu)
   have hu2 := hP.keep (by simp) hu
   obtain ⟨Hu, HP⟩ := hid2 hu2 hP
   obtain ⟨q0, q1, f0, f1, _⟩ := box1
   clear hu hu' hu2 hP hb0 e1
   go_wp2
   refine bodyPost_ret (res_int rfl _ w.heap.size rfl HP.out.c0 HP.out.c1) rfl ?_
   exact ⟨_, rfl, ⟨_, rfl, Hu.out⟩, HP.out.bel⟩
theorem boxes2 (w : World) (a0 a1 b0 b1 : Value) (t : TypeId) :
  Box ((w.alloc (.cells #[a0, a1] t)).alloc (.cells #[b0, b1] t)) w.heap.size a0 a1 ∧
  Box ((w.alloc (.cells #[a0, a1] t)).alloc (.cells #[b0, b1] t)) (w.heap.size + 1) b0 b1 ∧
  Below w.heap.size w ((w.alloc (.cells #[a0, a1] t)).alloc (.cells #[b0, b1] t)) := by
 have h1 := (Box.new w a0 a1 t).alloc (.cells #[b0, b1] t)
 have h2 := Box.new (w.alloc (.cells #[a0, a1] t)) b0 b1 t
 rw [show (w.alloc (.cells #[a0, a1] t)).heap.size = w.heap.size + 1 by simp] at h2
 exact ⟨h1, h2, ((Below.refl _ w).alloc (Nat.le_refl _) _).alloc (by simp) _⟩
theorem same5_any {Y : Zone} {b : Value} {t : Bool} {k : List Nat} (ha : IsI w Z a s l) (hb : IsI w Y b t k) :
  Calls Tryz.prog 55 #[a, b] w fun e w' => e = .returned (.bool (decide (s = t ∧ l = k))) ∧ Below w.heap.size w w' := by
 obtain ⟨_, rfl, A, ca, rfl, hu⟩ := ha
 obtain ⟨_, rfl, B, cb, rfl, hv⟩ := hb
 have ua : IsU w Z (.slice A l.length ca) l := ⟨A, ca, rfl, hu⟩
 have ub : IsU w Y (.slice B k.length cb) k := ⟨B, cb, rfl, hv⟩
 obtain ⟨bA, bB, hB0⟩ := boxes2 w (.bool s) (.slice A l.length ca) (.bool t) (.slice B k.length cb) 25
 obtain ⟨a0, a1, _, _, _⟩ := bA
 obtain ⟨b0, b1, _, _, _⟩ := bB
 have HB := hid hB0
 clear hu hv
 by_cases hst : s = t
 · subst hst
   have hsame := same_dec (ua.below hB0) (ub.below hB0)
   have e : decide (s = s ∧ l = k) = decide (l = k) := by simp
   rw [e]
   have Hs := hid hsame
   clear hsame ua ub hB0
   cases s
   all_goals
    go_enter Tryz.func55, Tryz.ntmps55
    go_wp2_with fail
    refine Hs.out.mono ?_
    rintro e w1 ⟨rfl, hb1⟩
    go_wp2
    go_ret
    exact ⟨rfl, from_ HB.out hb1⟩
 · have e : decide (s = t ∧ l = k) = false := by simp [hst]
   rw [e]
   clear ua ub hB0
   rcases (show (s = true ∧ t = false) ∨ (s = false ∧ t = true) by cases s <;> cases t <;> simp_all) with ⟨rfl, rfl⟩ | ⟨rfl, rfl⟩
   all_goals
    go_enter Tryz.func55, Tryz.ntmps55
    go_wp2
    go_ret
    exact ⟨rfl, HB.out⟩
theorem own_below {base : Nat} {e : TypeId} {size : Nat} {n : Nat} (h : w.ownsRow base e size v n xs) (hb : Below w.heap.size w w') : w'.ownsRow base e size v n xs := by
 refine ⟨h.1, ?_⟩
 rcases h.2 with h1 | ⟨g, cap, cur, e1, hg, hh, hr⟩
 · exact .inl h1
 · refine .inr ⟨g, cap, cur, e1, hg, ?_, hr⟩
   rw [hb.block g]
   · exact hh
   · by_cases hlt : g < w.heap.size
     · exact hlt
     · rw [Array.getElem?_eq_none (by omega)] at hh
       cases hh
def IsVs (w : World) (v : Value) (zs : List Int) : Prop := ∃ A c, v = .slice A zs.length c ∧ zs.length ≤ c ∧ c ≤ 9223372036854775807 ∧
 (0 < zs.length → ∃ g, A = some ⟨g, 0, none⟩ ∧ g < w.heap.size ∧ ∀ j (hj : j < zs.length), ∃ u, w.cell? ⟨g, j * 2, none⟩ = some (.bool (decide (zs[j] < 0))) ∧ w.cell? ⟨g, j * 2 + 1, none⟩ = some u ∧ IsU w old u (limbs zs[j].natAbs))
theorem IsVs.below {zs : List Int} (h : IsVs w v zs) (hb : Below w.heap.size w w') : IsVs w' v zs := by
 obtain ⟨A, c, e, h1, h2, h3⟩ := h
 refine ⟨A, c, e, h1, h2, fun h0 => ?_⟩
 obtain ⟨g, e1, hg, hc⟩ := h3 h0
 refine ⟨g, e1, Nat.lt_of_lt_of_le hg hb.size, fun j hj => ?_⟩
 obtain ⟨u, c0, c1, hu⟩ := hc j hj
 exact ⟨u, keepC hb c0, keepC hb c1, hu.below hb⟩
def but (g : Nat) : Zone := ⟨fun b => b ≠ g, False⟩
def CellsI (w : World) (g : Nat) (xs : List Value) (k : Nat) (zs : List Int) : Prop :=
 ∀ j (hj : j < zs.length), j < k → ∃ u, xs[j * 2]? = some (.bool (decide (zs[j] < 0))) ∧ xs[j * 2 + 1]? = some u ∧ IsU w (but g) u (limbs zs[j].natAbs)
theorem CellsI.keep {k : Nat} {zs : List Int} (h : CellsI w g xs k zs) (hk : ∀ b, b ≠ g → b < w.heap.size → w'.heap[b]? = w.heap[b]?) : CellsI w' g xs k zs := fun j hj hjk => by
 obtain ⟨u, c0, c1, hu⟩ := h j hj hjk
 exact ⟨u, c0, c1, hu.keep fun b hb hl => hk b hb hl⟩
theorem CellsI.put {k : Nat} {zs : List Int} (h : CellsI w g xs k zs) (hl : xs.length = zs.length * 2) (hk : k < zs.length)
  (hu : IsU w (but g) u (limbs (zs[k]).natAbs)) (hw : ∀ b, b ≠ g → b < w.heap.size → w'.heap[b]? = w.heap[b]?) :
  CellsI w' g ((xs.set (k * 2) (.bool (decide (zs[k] < 0)))).set (k * 2 + 1) u) (k + 1) zs := fun j hj hjk => by
 rcases Nat.lt_or_ge j k with h1 | h1
 · obtain ⟨u', c0, c1, hu'⟩ := h j hj h1
   refine ⟨u', ?_, ?_, hu'.keep fun b hb hl => hw b hb hl⟩
   · rw [List.getElem?_set_ne (by omega), List.getElem?_set_ne (by omega)]
     exact c0
   · rw [List.getElem?_set_ne (by omega), List.getElem?_set_ne (by omega)]
     exact c1
 · obtain rfl : j = k := by omega
   refine ⟨u, ?_, ?_, hu.keep fun b hb hl => hw b hb hl⟩
   · rw [List.getElem?_set_ne (by omega), List.getElem?_set_self (by omega)]
   · rw [List.getElem?_set_self (by rw [List.length_set]; omega)]
theorem infoI : (Tryz.prog.info? 25).map (fun i => (i.zero, i.size, i.bytes)) = some (some (.agg #[.bool false, .slice none 0 0]), 2, 32) := by kernel_rfl
def Typ (w : World) (B : Nat) (u : Value) : Prop := ∀ a n c, u = .slice (some a) n c → B ≤ a.block ∧ ∃ cs fr, w.heap[a.block]? = some (.cells cs 95 fr)
theorem Typ.keep (h : Typ w B u) (hg : ∃ cs fr, w.heap[g]? = some (.cells cs 25 fr)) (hk : ∀ b, b ≠ g → b < w.heap.size → w'.heap[b]? = w.heap[b]?) : Typ w' B u := fun a n c e => by
 obtain ⟨h0, cs, fr, h1⟩ := h a n c e
 refine ⟨h0, cs, fr, ?_⟩
 rw [hk]
 · exact h1
 · intro e2
   obtain ⟨cs2, fr2, h2⟩ := hg
   rw [← e2, h1] at h2
   injection h2 with h2
   injection h2 with _ h3
   exact absurd h3 (by decide)
 · by_cases hlt : a.block < w.heap.size
   · exact hlt
   · rw [Array.getElem?_eq_none (by omega)] at h1
     cases h1
theorem Typ.below (h : Typ w B u) (hb : Below w.heap.size w w') : Typ w' B u := fun a n c e => by
 obtain ⟨h0, cs, fr, h1⟩ := h a n c e
 refine ⟨h0, cs, fr, ?_⟩
 rw [hb.block]
 · exact h1
 · by_cases hlt : a.block < w.heap.size
   · exact hlt
   · rw [Array.getElem?_eq_none (by omega)] at h1
     cases h1
theorem Typ.apart (h : Typ w B u) (hg : ∃ cs fr, w.heap[g]? = some (.cells cs 25 fr)) (hu : IsU w Z u l) : IsU w (but g) u l := by
 obtain ⟨A, c, rfl, hs, hcap, hmax, hnul, hrow⟩ := hu
 refine ⟨A, c, rfl, hs, hcap, hmax, hnul, fun h0 => ?_⟩
 obtain ⟨b, o, e, _, _, hc⟩ := hrow h0
 refine ⟨b, o, e, fun e2 => ?_, fun h => h.elim, hc⟩
 obtain ⟨_, cs, fr, h1⟩ := h ⟨b, o, none⟩ _ _ (by rw [e])
 obtain ⟨cs2, fr2, h2⟩ := hg
 subst e2
 rw [h2] at h1
 injection h1 with h1
 injection h1 with _ h3
 exact absurd h3 (by decide)
theorem r5may_any (ha : IsI w Z a s l) :
  Calls Tryz.prog 127 #[a] w fun e w' => e = .returned (.bool (okI s l)) ∧ Below w.heap.size w w' := by
 obtain ⟨_, rfl, A, c, rfl, hu⟩ := ha
 have hlen := hu.len
 have hb0 : Below w.heap.size w (w.alloc (.cells #[.bool s, .slice A l.length c] 25)) := (Below.refl _ w).alloc (Nat.le_refl _) _
 obtain ⟨q0, q1, _, _, _⟩ := Box.new w (.bool s) (.slice A l.length c) 25
 have hm := may_any (a := .slice A l.length c) ⟨A, c, rfl, hu.below hb0⟩
 have Hb0 := hid hb0
 cases hg : good l with
 | false =>
   have e1 : okI s l = false := by simp [okI, hg]
   rw [hg] at hm
   rw [e1]
   have Hm := hid hm
   clear hm hu hg e1 hb0
   go_enter Tryz.func127, Tryz.ntmps127
   go_wp2_with fail
   refine Hm.out.mono ?_
   rintro e w1 ⟨rfl, rfl⟩
   go_wp2
   go_ret
   exact ⟨rfl, Hb0.out⟩
 | true =>
   rw [hg] at hm
   have Hm := hid hm
   cases s with
   | false =>
     have e1 : okI false l = true := by simp [okI, hg]
     rw [e1]
     clear hm hu hg e1 hb0
     go_enter Tryz.func127, Tryz.ntmps127
     go_wp2_with fail
     refine Hm.out.mono ?_
     rintro e w1 ⟨rfl, rfl⟩
     go_wp2
     go_ret
     exact ⟨rfl, Hb0.out⟩
   | true =>
     by_cases h0 : l.length = 0
     · have e1 : okI true l = false := by simp [okI, h0]
       rw [e1]
       rw [h0] at Hm Hb0 q0 q1 ⊢
       clear hm hu hg e1 hb0
       go_enter Tryz.func127, Tryz.ntmps127
       go_wp2_with fail
       refine Hm.out.mono ?_
       rintro e w1 ⟨rfl, rfl⟩
       go_wp2
       go_ret
       exact ⟨rfl, Hb0.out⟩
     · have e1 : okI true l = true := by simp [okI, hg, h0]
       rw [e1]
       have hd : decide ((0 : Int) < (l.length : Int)) = true := decide_eq_true (by omega)
       have hd2 : 0 < l.length := by omega
       clear hm hu hg e1 hb0
       go_enter Tryz.func127, Tryz.ntmps127
       go_wp2_with fail
       refine Hm.out.mono ?_
       rintro e w1 ⟨rfl, rfl⟩
       go_wp2
       go_ret
       exact ⟨rfl, Hb0.out⟩
theorem r5signed_good {x : Int} (ha : IsZ w Z a x) :
  Calls Tryz.prog 120 #[a] w fun e w' => e = .returned (.int .i64 (sgn x)) ∧ Below w.heap.size w w' := by
 obtain ⟨_, rfl, A, c, rfl, hu⟩ := ha
 have hlen := hu.len
 have hb0 : Below w.heap.size w (w.alloc (.cells #[.bool (decide (x < 0)), .slice A (limbs x.natAbs).length c] 25)) := (Below.refl _ w).alloc (Nat.le_refl _) _
 obtain ⟨q0, q1, _, _, _⟩ := Box.new w (.bool (decide (x < 0))) (.slice A (limbs x.natAbs).length c) 25
 have hpos : (0 < (limbs x.natAbs).length) ↔ x ≠ 0 := by rw [len_pos]; omega
 clear hu
 rcases (show x = 0 ∨ x < 0 ∨ 0 < x by omega) with h | h | h
 · have e1 : sgn x = 0 := by simp [sgn, h]
   have hl0 : (limbs x.natAbs).length = 0 := by omega
   rw [e1, hl0] at *
   have hd : decide (x < 0) = false := decide_eq_false (by omega)
   rw [hd] at *
   clear hpos h e1 hl0 hd hlen
   go_enter Tryz.func120, Tryz.ntmps120
   go_wp2
   go_ret
   exact ⟨rfl, by go_grown⟩
 · have e1 : sgn x = -1 := by simp [sgn]; omega
   have hl0 : (((limbs x.natAbs).length : Int) == 0) = false := beq_eq_false_iff_ne.2 (by omega)
   have hd : decide (x < 0) = true := decide_eq_true h
   rw [e1]
   rw [hd] at *
   clear hpos h e1 hd hlen
   generalize (limbs x.natAbs).length = L at *
   go_enter Tryz.func120, Tryz.ntmps120
   go_wp2
   go_ret
   exact ⟨rfl, by go_grown⟩
 · have e1 : sgn x = 1 := by simp [sgn]; omega
   have hl0 : (((limbs x.natAbs).length : Int) == 0) = false := beq_eq_false_iff_ne.2 (by omega)
   have hd : decide (x < 0) = false := decide_eq_false (by omega)
   rw [e1]
   rw [hd] at *
   clear hpos h e1 hd hlen
   generalize (limbs x.natAbs).length = L at *
   go_enter Tryz.func120, Tryz.ntmps120
   go_wp2
   go_ret
   exact ⟨rfl, by go_grown⟩
end Go.Proofs.YthpngihjcphigaaGreat
