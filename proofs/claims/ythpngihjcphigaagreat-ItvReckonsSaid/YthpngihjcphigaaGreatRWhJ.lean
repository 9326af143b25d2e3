/- slices.Equal of words, whole.Same. No conditions. -/
import Derived.Test.YthpngihjcphigaaGreatRWhC
import Derived.Test.YthpngihjcphigaaGreatRRefI
import Derived.Test.YthpngihjcphigaaGreatRRefE
import Derived.Test.YthpngihjcphigaaGreatRWhF
import Derived.Test.YthpngihjcphigaaGreatRRefA
set_option linter.unusedVariables false
set_option linter.unusedSimpArgs false
set_option maxRecDepth 100000
set_option maxHeartbeats 40000000
namespace Go.Proofs.YthpngihjcphigaaGreat
open Go.Lib (hid)
open Go.RowKit
variable {B g n : Nat} {Z : Zone} {a u v : Value} {l : List Nat} {s : Bool} {w w' : World} {xs : List Value}
theorem r05of_any {n : Int} (hn : -9223372036854775808 ≤ n ∧ n ≤ 9223372036854775807) :
  Calls Tryz.prog 49 #[.int .i64 n] w fun e w' => ∃ v, e = .returned v ∧ IsZ w' (new w.heap.size) v n ∧ Below w.heap.size w w' := by
 obtain ⟨m, hm⟩ : ∃ m, m = n.natAbs := ⟨_, rfl⟩
 have hmW : m < 18446744073709551616 := by omega
 have hb0 : Below w.heap.size w (w.alloc (.cells #[.bool false, .slice none 0 0] 25)) := (Below.refl _ w).alloc (Nat.le_refl _) _
 have box0 := Box.new w (.bool false) (.slice none 0 0) 25
 unfold IsZ
 rw [← hm]
 by_cases hneg : n < 0
 · obtain ⟨k, hk⟩ : ∃ k : Nat, (k : Int) = n + 18446744073709551616 := ⟨(n + 18446744073709551616).toNat, by omega⟩
   have e1 : IntKind.u64.wrap n = (k : Int) := by rw [IntKind.wrap_u64]; omega
   have e2 : IntKind.u64.wrap (-(k : Int)) = (m : Int) := by rw [IntKind.wrap_u64]; omega
   have e3 : IntKind.u64.wrap (0 - (k : Int)) = (m : Int) := by rw [IntKind.wrap_u64]; omega
   rw [decide_eq_true (p := n < 0) hneg]
   clear hm hk
   go_enter Tryz.func49, Tryz.ntmps49
   go_wp2_with fail
   refine (rof_any hmW).mono ?_
   rintro e w1 ⟨u, rfl, ⟨Au, cu, rfl, hu'⟩, hb1⟩
   have hu : IsU w1 (new (w.alloc (.cells #[.bool false, .slice none 0 0] 25)).heap.size) (.slice Au (limbs m).length cu) (limbs m) := ⟨Au, cu, rfl, hu'⟩
   have box1 := box0.below hb1
   have hB := from_ hb0 hb1
   have hP := box1.put hB (Nat.le_refl _) (.bool true) (.slice Au (limbs m).length cu)
   have hu2 := hP.keep (by simp) hu
   obtain ⟨Hu, HP⟩ := hid2 hu2 hP
   obtain ⟨q0, q1, f0, f1, _⟩ := box1
   clear hu hu' hu2 hP hb0 e1 e2 e3
   go_wp2
   refine bodyPost_ret (res_int rfl _ w.heap.size rfl HP.out.c0 HP.out.c1) rfl ?_
   exact ⟨_, rfl, ⟨_, rfl, Hu.out⟩, HP.out.bel⟩
 · have e1 : IntKind.u64.wrap n = (m : Int) := by rw [IntKind.wrap_u64]; omega
   have hd : decide (n < 0) = false := decide_eq_false hneg
   rw [hd]
   clear hm hneg
   go_enter Tryz.func49, Tryz.ntmps49
   go_wp2_with fail
   refine (rof_any hmW).mono ?_
   rintro e w1 ⟨u, rfl, ⟨Au, cu, rfl, hu'⟩, hb1⟩
   have hu : IsU w1 (new (w.alloc (.cells #[.bool false, .slice none 0 0] 25)).heap.size) (.slice Au (limbs m).length cu) (limbs m) := ⟨Au, cu, rfl, hu'⟩
   have box1 := box0.below hb1
   have hB := from_ hb0 hb1
   have hP := box1.put hB (Nat.le_refl _) (.bool false) (.slice Au (limbs m).length cu)
   have hu2 := hP.keep (by simp) hu
   obtain ⟨Hu, HP⟩ := hid2 hu2 hP
   obtain ⟨q0, q1, f0, f1, _⟩ := box1
   clear hu hu' hu2 hP hb0 e1
   go_wp2
   refine bodyPost_ret (res_int rfl _ w.heap.size rfl HP.out.c0 HP.out.c1) rfl ?_
   exact ⟨_, rfl, ⟨_, rfl, Hu.out⟩, HP.out.bel⟩
theorem boxes2 (w : World) (a0 a1 b0 b1 : Value) (t : TypeId) :
  Box ((w.alloc (.cells #[a0, a1] t)).alloc (.cells #[b0, b1] t)) w.heap.size a0 a1 ∧
  Box ((w.alloc (.cells #[a0, a1] t)).alloc (.cells #[b0, b1] t)) (w.heap.size + 1) b0 b1 ∧
  Below w.heap.size w ((w.alloc (.cells #[a0, a1] t)).alloc (.cells #[b0, b1] t)) := by
 have h1 := (Box.new w a0 a1 t).alloc (.cells #[b0, b1] t)
 have h2 := Box.new (w.alloc (.cells #[a0, a1] t)) b0 b1 t
 rw [show (w.alloc (.cells #[a0, a1] t)).heap.size = w.heap.size + 1 by simp] at h2
 exact ⟨h1, h2, ((Below.refl _ w).alloc (Nat.le_refl _) _).alloc (by simp) _⟩
theorem same5_any {Y : Zone} {b : Value} {t : Bool} {k : List Nat} (ha : IsI w Z a s l) (hb : IsI w Y b t k) :
  Calls Tryz.prog 55 #[a, b] w fun e w' => e = .returned (.bool (decide (s = t ∧ l = k))) ∧ Below w.heap.size w w' := by
 obtain ⟨_, rfl, A, ca, rfl, hu⟩ := ha
 obtain ⟨_, rfl, B, cb, rfl, hv⟩ := hb
 have ua : IsU w Z (.slice A l.length ca) l := ⟨A, ca, rfl, hu⟩
 have ub : IsU w Y (.slice B k.length cb) k := ⟨B, cb, rfl, hv⟩
 obtain ⟨bA, bB, hB0⟩ := boxes2 w (.bool s) (.slice A l.length ca) (.bool t) (.slice B k.length cb) 25
 obtain ⟨a0, a1, _, _, _⟩ := bA
 obtain ⟨b0, b1, _, _, _⟩ := bB
 have HB := hid hB0
 clear hu hv
 by_cases hst : s = t
 · subst hst
   have hsame := same_dec (ua.below hB0) (ub.below hB0)
   have e : decide (s = s ∧ l = k) = decide (l = k) := by simp
   rw [e]
   have Hs := hid hsame
   clear hsame ua ub hB0
   cases s
   all_goals
    go_enter Tryz.func55, Tryz.ntmps55
    go_wp2_with fail
    refine Hs.out.mono ?_
    rintro e w1 ⟨rfl, hb1⟩
    go_wp2
    go_ret
    exact ⟨rfl, from_ HB.out hb1⟩
 · have e : decide (s = t ∧ l = k) = false := by simp [hst]
   rw [e]
   clear ua ub hB0
   rcases (show (s = true ∧ t = false) ∨ (s = false ∧ t = true) by cases s <;> cases t <;> simp_all) with ⟨rfl, rfl⟩ | ⟨rfl, rfl⟩
   all_goals
    go_enter Tryz.func55, Tryz.ntmps55
    go_wp2
    go_ret
    exact ⟨rfl, HB.out⟩
theorem own_below {base : Nat} {e : TypeId} {size : Nat} (h : w.ownsRow base e size v n xs) (hb : Below w.heap.size w w') : w'.ownsRow base e size v n xs := by
 refine ⟨h.1, ?_⟩
 rcases h.2 with h1 | ⟨g, cap, cur, e1, hg, hh, hr⟩
 · exact .inl h1
 · refine .inr ⟨g, cap, cur, e1, hg, ?_, hr⟩
   rw [hb.block g]
   · exact hh
   · by_cases hlt : g < w.heap.size
     · exact hlt
     · rw [Array.getElem?_eq_none (by omega)] at hh
       cases hh
def IsVs (w : World) (v : Value) (zs : List Int) : Prop := ∃ A c, v = .slice A zs.length c ∧ zs.length ≤ c ∧ c ≤ 9223372036854775807 ∧
 (0 < zs.length → ∃ g, A = some ⟨g, 0, none⟩ ∧ g < w.heap.size ∧ ∀ j (hj : j < zs.length), ∃ u, w.cell? ⟨g, j * 2, none⟩ = some (.bool (decide (zs[j] < 0))) ∧ w.cell? ⟨g, j * 2 + 1, none⟩ = some u ∧ IsU w old u (limbs zs[j].natAbs))
theorem IsVs.below {zs : List Int} (h : IsVs w v zs) (hb : Below w.heap.size w w') : IsVs w' v zs := by
 obtain ⟨A, c, e, h1, h2, h3⟩ := h
 refine ⟨A, c, e, h1, h2, fun h0 => ?_⟩
 obtain ⟨g, e1, hg, hc⟩ := h3 h0
 refine ⟨g, e1, Nat.lt_of_lt_of_le hg hb.size, fun j hj => ?_⟩
 obtain ⟨u, c0, c1, hu⟩ := hc j hj
 exact ⟨u, keepC hb c0, keepC hb c1, hu.below hb⟩
def but (g : Nat) : Zone := ⟨fun b => b ≠ g, False⟩
def CellsI (w : World) (g : Nat) (xs : List Value) (k : Nat) (zs : List Int) : Prop :=
 ∀ j (hj : j < zs.length), j < k → ∃ u, xs[j * 2]? = some (.bool (decide (zs[j] < 0))) ∧ xs[j * 2 + 1]? = some u ∧ IsU w (but g) u (limbs zs[j].natAbs)
theorem CellsI.keep {k : Nat} {zs : List Int} (h : CellsI w g xs k zs) (hk : ∀ b, b ≠ g → b < w.heap.size → w'.heap[b]? = w.heap[b]?) : CellsI w' g xs k zs := fun j hj hjk => by
 obtain ⟨u, c0, c1, hu⟩ := h j hj hjk
 exact ⟨u, c0, c1, hu.keep fun b hb hl => hk b hb hl⟩
theorem CellsI.put {k : Nat} {zs : List Int} (h : CellsI w g xs k zs) (hl : xs.length = zs.length * 2) (hk : k < zs.length)
  (hu : IsU w (but g) u (limbs (zs[k]).natAbs)) (hw : ∀ b, b ≠ g → b < w.heap.size → w'.heap[b]? = w.heap[b]?) :
  CellsI w' g ((xs.set (k * 2) (.bool (decide (zs[k] < 0)))).set (k * 2 + 1) u) (k + 1) zs := fun j hj hjk => by
 rcases Nat.lt_or_ge j k with h1 | h1
 · obtain ⟨u', c0, c1, hu'⟩ := h j hj h1
   refine ⟨u', ?_, ?_, hu'.keep fun b hb hl => hw b hb hl⟩
   · rw [List.getElem?_set_ne (by omega), List.getElem?_set_ne (by omega)]
     exact c0
   · rw [List.getElem?_set_ne (by omega), List.getElem?_set_ne (by omega)]
     exact c1
 · obtain rfl : j = k := by omega
   refine ⟨u, ?_, ?_, hu.keep fun b hb hl => hw b hb hl⟩
   · rw [List.getElem?_set_ne (by omega), List.getElem?_set_self (by omega)]
   · rw [List.getElem?_set_self (by rw [List.length_set]; omega)]
def Typ (w : World) (B : Nat) (u : Value) : Prop := ∀ a n c, u = .slice (some a) n c → B ≤ a.block ∧ ∃ cs fr, w.heap[a.block]? = some (.cells cs 95 fr)
theorem Typ.keep (h : Typ w B u) (hg : ∃ cs fr, w.heap[g]? = some (.cells cs 25 fr)) (hk : ∀ b, b ≠ g → b < w.heap.size → w'.heap[b]? = w.heap[b]?) : Typ w' B u := fun a n c e => by
 obtain ⟨h0, cs, fr, h1⟩ := h a n c e
 refine ⟨h0, cs, fr, ?_⟩
 rw [hk]
 · exact h1
 · intro e2
   obtain ⟨cs2, fr2, h2⟩ := hg
   rw [← e2, h1] at h2
   injection h2 with h2
   injection h2 with _ h3
   exact absurd h3 (by decide)
 · by_cases hlt : a.block < w.heap.size
   · exact hlt
   · rw [Array.getElem?_eq_none (by omega)] at h1
     cases h1
theorem Typ.below (h : Typ w B u) (hb : Below w.heap.size w w') : Typ w' B u := fun a n c e => by
 obtain ⟨h0, cs, fr, h1⟩ := h a n c e
 refine ⟨h0, cs, fr, ?_⟩
 rw [hb.block]
 · exact h1
 · by_cases hlt : a.block < w.heap.size
   · exact hlt
   · rw [Array.getElem?_eq_none (by omega)] at h1
     cases h1
theorem Typ.apart (h : Typ w B u) (hg : ∃ cs fr, w.heap[g]? = some (.cells cs 25 fr)) (hu : IsU w Z u l) : IsU w (but g) u l := by
 obtain ⟨A, c, rfl, hs, hcap, hmax, hnul, hrow⟩ := hu
 refine ⟨A, c, rfl, hs, hcap, hmax, hnul, fun h0 => ?_⟩
 obtain ⟨b, o, e, _, _, hc⟩ := hrow h0
 refine ⟨b, o, e, fun e2 => ?_, fun h => h.elim, hc⟩
 obtain ⟨_, cs, fr, h1⟩ := h ⟨b, o, none⟩ _ _ (by rw [e])
 obtain ⟨cs2, fr2, h2⟩ := hg
 subst e2
 rw [h2] at h1
 injection h1 with h1
 injection h1 with _ h3
 exact absurd h3 (by decide)
theorem r5may_any (ha : IsI w Z a s l) :
  Calls Tryz.prog 127 #[a] w fun e w' => e = .returned (.bool (okI s l)) ∧ Below w.heap.size w w' := by
 obtain ⟨_, rfl, A, c, rfl, hu⟩ := ha
 have hlen := hu.len
 have hb0 : Below w.heap.size w (w.alloc (.cells #[.bool s, .slice A l.length c] 25)) := (Below.refl _ w).alloc (Nat.le_refl _) _
 obtain ⟨q0, q1, _, _, _⟩ := Box.new w (.bool s) (.slice A l.length c) 25
 have hm := may_any (a := .slice A l.length c) ⟨A, c, rfl, hu.below hb0⟩
 have Hb0 := hid hb0
 cases hg : good l with
 | false =>
   have e1 : okI s l = false := by simp [okI, hg]
   rw [hg] at hm
   rw [e1]
   have Hm := hid hm
   clear hm hu hg e1 hb0
   go_enter Tryz.func127, Tryz.ntmps127
   go_wp2_with fail
   refine Hm.out.mono ?_
   rintro e w1 ⟨rfl, rfl⟩
   go_wp2
   go_ret
   exact ⟨rfl, Hb0.out⟩
 | true =>
   rw [hg] at hm
   have Hm := hid hm
   cases s with
   | false =>
     have e1 : okI false l = true := by simp [okI, hg]
     rw [e1]
     clear hm hu hg e1 hb0
     go_enter Tryz.func127, Tryz.ntmps127
     go_wp2_with fail
     refine Hm.out.mono ?_
     rintro e w1 ⟨rfl, rfl⟩
     go_wp2
     go_ret
     exact ⟨rfl, Hb0.out⟩
   | true =>
     by_cases h0 : l.length = 0
     · have e1 : okI true l = false := by simp [okI, h0]
       rw [e1]
       rw [h0] at Hm Hb0 q0 q1 ⊢
       clear hm hu hg e1 hb0
       go_enter Tryz.func127, Tryz.ntmps127
       go_wp2_with fail
       refine Hm.out.mono ?_
       rintro e w1 ⟨rfl, rfl⟩
       go_wp2
       go_ret
       exact ⟨rfl, Hb0.out⟩
     · have e1 : okI true l = true := by simp [okI, hg, h0]
       rw [e1]
       have hd : decide ((0 : Int) < (l.length : Int)) = true := decide_eq_true (by omega)
       have hd2 : 0 < l.length := by omega
       clear hm hu hg e1 hb0
       go_enter Tryz.func127, Tryz.ntmps127
       go_wp2_with fail
       refine Hm.out.mono ?_
       rintro e w1 ⟨rfl, rfl⟩
       go_wp2
       go_ret
       exact ⟨rfl, Hb0.out⟩
theorem r5signed_good {x : Int} (ha : IsZ w Z a x) :
  Calls Tryz.prog 120 #[a] w fun e w' => e = .returned (.int .i64 (sgn x)) ∧ Below w.heap.size w w' := by
 obtain ⟨_, rfl, A, c, rfl, hu⟩ := ha
 have hlen := hu.len
 have hb0 : Below w.heap.size w (w.alloc (.cells #[.bool (decide (x < 0)), .slice A (limbs x.natAbs).length c] 25)) := (Below.refl _ w).alloc (Nat.le_refl _) _
 obtain ⟨q0, q1, _, _, _⟩ := Box.new w (.bool (decide (x < 0))) (.slice A (limbs x.natAbs).length c) 25
 have hpos : (0 < (limbs x.natAbs).length) ↔ x ≠ 0 := by rw [len_pos]; omega
 clear hu
 rcases (show x = 0 ∨ x < 0 ∨ 0 < x by omega) with h | h | h
 · have e1 : sgn x = 0 := by simp [sgn, h]
   have hl0 : (limbs x.natAbs).length = 0 := by omega
   rw [e1, hl0] at *
   have hd : decide (x < 0) = false := decide_eq_false (by omega)
   rw [hd] at *
   clear hpos h e1 hl0 hd hlen
   go_enter Tryz.func120, Tryz.ntmps120
   go_wp2
   go_ret
   exact ⟨rfl, by go_grown⟩
 · have e1 : sgn x = -1 := by simp [sgn]; omega
   have hl0 : (((limbs x.natAbs).length : Int) == 0) = false := beq_eq_false_iff_ne.2 (by omega)
   have hd : decide (x < 0) = true := decide_eq_true h
   rw [e1]
   rw [hd] at *
   clear hpos h e1 hd hlen
   generalize (limbs x.natAbs).length = L at *
   go_enter Tryz.func120, Tryz.ntmps120
   go_wp2
   go_ret
   exact ⟨rfl, by go_grown⟩
 · have e1 : sgn x = 1 := by simp [sgn]; omega
   have hl0 : (((limbs x.natAbs).length : Int) == 0) = false := beq_eq_false_iff_ne.2 (by omega)
   have hd : decide (x < 0) = false := decide_eq_false (by omega)
   rw [e1]
   rw [hd] at *
   clear hpos h e1 hd hlen
   generalize (limbs x.natAbs).length = L at *
   go_enter Tryz.func120, Tryz.ntmps120
   go_wp2
   go_ret
   exact ⟨rfl, by go_grown⟩
def intE (s : Bool) (l : List Nat) : Int := if okI s l = true then (if l.length ≤ 1 ∧ (val l < 9223372036854775808 ∨ (s = true ∧ val l = 9223372036854775808)) then 0 else 4) else 8
def intX (s : Bool) (l : List Nat) : Int := if intE s l = 0 then zof s l else 0
theorem int_bad (h : okI s l = false) : intE s l = 8 ∧ intX s l = 0 := by
 have e : intE s l = 8 := by simp [intE, h]
 exact ⟨e, by unfold intX; rw [e]; rfl⟩
theorem int_many (h : okI s l = true) (h2 : ¬ (l.length ≤ 1 ∧ (val l < 9223372036854775808 ∨ (s = true ∧ val l = 9223372036854775808)))) : intE s l = 4 ∧ intX s l = 0 := by
 have e : intE s l = 4 := by unfold intE; rw [if_pos h, if_neg h2]
 exact ⟨e, by unfold intX; rw [e]; rfl⟩
theorem int_fits (h : okI s l = true) (h2 : l.length ≤ 1 ∧ (val l < 9223372036854775808 ∨ (s = true ∧ val l = 9223372036854775808))) : intE s l = 0 ∧ intX s l = zof s l := by
 have e : intE s l = 0 := by unfold intE; rw [if_pos h, if_pos h2]
 exact ⟨e, by unfold intX; rw [e]; rfl⟩
theorem val_few (h : l.length ≤ 1) : l[0]?.getD 0 = val l := by
 match l, h with
 | [], _ => rfl
 | [x], _ => simp [val]
theorem okI_good (h : okI s l = true) : good l = true := by
 unfold okI at h
 rw [Bool.and_eq_true] at h
 exact h.1
theorem wint_all (ha : IsI w Z a s l) :
  Calls Tryz.prog 93 #[a] w fun e w' => e = .returned (.tuple #[.int .i64 (intX s l), .int .i64 (intE s l)]) ∧ Below w.heap.size w w' := by
 obtain ⟨_, rfl, A, c, rfl, hu⟩ := ha
 have hb0 : Below w.heap.size w (w.alloc (.cells #[.bool s, .slice A l.length c] 25)) := (Below.refl _ w).alloc (Nat.le_refl _) _
 obtain ⟨q0, q1, _, _, _⟩ := Box.new w (.bool s) (.slice A l.length c) 25
 have hI : IsI w Z (.agg #[.bool s, .slice A l.length c]) s l := ⟨_, rfl, A, c, rfl, hu⟩
 have hck := wcheck_any (hI.below hb0)
 have hU : IsU w Z (.slice A l.length c) l := ⟨A, c, rfl, hu⟩
 have hsm := hu.small
 cases hok : okI s l with
 | false =>
   obtain ⟨e1, e2⟩ := int_bad hok
   have e3 : errC s l = 8 := by simp [errC, hok]
   rw [e3] at hck
   rw [e1, e2]
   have Hck := hid hck
   clear hck e1 e2 e3 hok hI hU hu
   go_enter Tryz.func93, Tryz.ntmps93
   go_wp2_with fail
   refine Hck.out.mono ?_
   rintro e w1 ⟨rfl, hb1⟩
   have hB := from_ hb0 hb1
   go_wp2
   go_ret2
   exact ⟨rfl, hB⟩
 | true =>
   have e3 : errC s l = 0 := by simp [errC, hok]
   rw [e3] at hck
   have Hck := hid hck
   have hg := okI_good hok
   by_cases hlen : l.length ≤ 1
   · have hw := fun (w1 : World) (h : Below w.heap.size w w1) => word_few (hU.below h) hg hlen
     rw [val_few hlen] at hw
     have hxW : val l < 18446744073709551616 := by
      have := val_lt hsm
      refine Nat.lt_of_lt_of_le this ?_
      exact Nat.le_trans (Nat.pow_le_pow_right (by omega) hlen) (by omega)
     have hm := fun h => int_many hok h
     have hf := fun h => int_fits hok h
     have hpos : s = true → 0 < val l := fun h => by
      rcases (okI_cases hok hsm).2 with h2 | h2
      · rw [h2] at h; cases h
      · exact h2.2
     have hz : zof s l = if s = true then -(val l : Int) else (val l : Int) := rfl
     rw [hz] at hf
     generalize val l = x at *
     generalize intX s l = X at *
     generalize intE s l = E at *
     have Hw := hid hw
     clear hw hck e3 hok hI hU hu hz hg
     rcases (show 9223372036854775808 < x ∨ x = 9223372036854775808 ∨ x < 9223372036854775808 by omega) with hx | hx | hx
     · obtain ⟨rfl, rfl⟩ := hm (by omega)
       have d1 : decide ((9223372036854775808 : Int) < (x : Int)) = true := decide_eq_true (by omega)
       clear hm hf hpos hsm
       go_enter Tryz.func93, Tryz.ntmps93
       go_wp2_with fail
       refine Hck.out.mono ?_
       rintro e w1 ⟨rfl, hb1⟩
       have q0 := keepC hb1 q0
       have q1 := keepC hb1 q1
       have hB := from_ hb0 hb1
       go_wp2_with fail
       refine (Hw.out _ hB).mono ?_
       rintro e w2 ⟨rfl, rfl⟩
       go_wp2
       go_ret2
       exact ⟨rfl, hB⟩
     · subst hx
       cases s
       · obtain ⟨rfl, rfl⟩ := hm (by simp)
         clear hm hf hpos hsm
         go_enter Tryz.func93, Tryz.ntmps93
         go_wp2_with fail
         refine Hck.out.mono ?_
         rintro e w1 ⟨rfl, hb1⟩
         have q0 := keepC hb1 q0
         have q1 := keepC hb1 q1
         have hB := from_ hb0 hb1
         go_wp2_with fail
         refine (Hw.out _ hB).mono ?_
         rintro e w2 ⟨rfl, rfl⟩
         go_wp2
         go_ret2
         exact ⟨rfl, hB⟩
       · obtain ⟨rfl, rfl⟩ := hf (by simp; omega)
         simp only [if_true]
         have f1 : IntKind.u64.wrap (-9223372036854775808) = 9223372036854775808 := by rw [IntKind.wrap_u64]; omega
         have f2 : IntKind.i64.wrap 9223372036854775808 = -9223372036854775808 := by rw [IntKind.wrap_i64]; omega
         clear hm hf hpos hsm
         go_enter Tryz.func93, Tryz.ntmps93
         go_wp2_with fail
         refine Hck.out.mono ?_
         rintro e w1 ⟨rfl, hb1⟩
         have q0 := keepC hb1 q0
         have q1 := keepC hb1 q1
         have hB := from_ hb0 hb1
         go_wp2_with fail
         refine (Hw.out _ hB).mono ?_
         rintro e w2 ⟨rfl, rfl⟩
         go_wp2
         go_ret2
         exact ⟨rfl, hB⟩
     · cases s
       · obtain ⟨rfl, rfl⟩ := hf ⟨hlen, .inl hx⟩
         simp only [Bool.false_eq_true, if_false]
         have d1 : decide ((9223372036854775808 : Int) < (x : Int)) = false := decide_eq_false (by omega)
         have d2 : ((x : Int) == 9223372036854775808) = false := beq_eq_false_iff_ne.2 (by omega)
         clear hm hf hpos hsm
         go_enter Tryz.func93, Tryz.ntmps93
         go_wp2_with fail
         refine Hck.out.mono ?_
         rintro e w1 ⟨rfl, hb1⟩
         have q0 := keepC hb1 q0
         have q1 := keepC hb1 q1
         have hB := from_ hb0 hb1
         go_wp2_with fail
         refine (Hw.out _ hB).mono ?_
         rintro e w2 ⟨rfl, rfl⟩
         go_wp2
         go_ret2
         exact ⟨rfl, hB⟩
       · obtain ⟨rfl, rfl⟩ := hf ⟨hlen, .inl hx⟩
         simp only [if_true]
         have hx0 := hpos rfl
         obtain ⟨y, hy⟩ : ∃ y, y = 18446744073709551616 - x := ⟨_, rfl⟩
         have d1 : decide ((9223372036854775808 : Int) < (x : Int)) = false := decide_eq_false (by omega)
         have d2 : ((x : Int) == 9223372036854775808) = false := beq_eq_false_iff_ne.2 (by omega)
         have f1 : IntKind.u64.wrap (-(x : Int)) = (y : Int) := by rw [IntKind.wrap_u64]; omega
         have f2 : IntKind.i64.wrap (y : Int) = -(x : Int) := by rw [IntKind.wrap_i64]; omega
         clear hm hf hpos hsm hy
         go_enter Tryz.func93, Tryz.ntmps93
         go_wp2_with fail
         refine Hck.out.mono ?_
         rintro e w1 ⟨rfl, hb1⟩
         have q0 := keepC hb1 q0
         have q1 := keepC hb1 q1
         have hB := from_ hb0 hb1
         go_wp2_with fail
         refine (Hw.out _ hB).mono ?_
         rintro e w2 ⟨rfl, rfl⟩
         go_wp2
         go_ret2
         exact ⟨rfl, hB⟩
   · have hw := fun (w1 : World) (h : Below w.heap.size w w1) => word_many (hU.below h) hg (by omega)
     obtain ⟨e1, e2⟩ := int_many hok (fun h => hlen h.1)
     rw [e1, e2]
     have Hw := hid hw
     clear hw hck e1 e2 e3 hok hI hU hu hg hsm
     go_enter Tryz.func93, Tryz.ntmps93
     go_wp2_with fail
     refine Hck.out.mono ?_
     rintro e w1 ⟨rfl, hb1⟩
     have q0 := keepC hb1 q0
     have q1 := keepC hb1 q1
     have hB := from_ hb0 hb1
     go_wp2_with fail
     refine (Hw.out _ hB).mono ?_
     rintro e w2 ⟨rfl, rfl⟩
     go_wp2
     go_ret2
     exact ⟨rfl, hB⟩
theorem size_64 (h1 : 9223372036854775808 ≤ n) (h2 : n < 18446744073709551616) : size n = 64 := size_eq (s := 63) (by omega) (by omega) (by omega)
theorem size_big (h1 : 18446744073709551616 ≤ n) : 64 < size n := by
 rcases Nat.lt_or_ge 64 (size n) with h | h
 · exact h
 · have h3 := lt_size n
   have h4 : 2 ^ size n ≤ 2 ^ 64 := Nat.pow_le_pow_right (by omega) h
   have h5 : (2 : Nat) ^ 64 = 18446744073709551616 := rfl
   omega
theorem size_small (h1 : n < 9223372036854775808) : size n < 64 := by
 have : size n ≤ 63 := size_le_of (by have h5 : (2 : Nat) ^ 63 = 9223372036854775808 := rfl; omega)
 omega
theorem r5int_all (ha : IsI w Z a s l) (hl : l.length ≤ 9000) :
  Calls Tryz.prog 96 #[a] w fun e w' => e = .returned (.tuple #[.int .i64 (intX s l), .int .i64 (intE s l)]) ∧ Below w.heap.size w w' := by
 obtain ⟨_, rfl, A, c, rfl, hu⟩ := ha
 have hb0 : Below w.heap.size w (w.alloc (.cells #[.bool s, .slice A l.length c] 25)) := (Below.refl _ w).alloc (Nat.le_refl _) _
 obtain ⟨q0, q1, _, _, _⟩ := Box.new w (.bool s) (.slice A l.length c) 25
 have hI : IsI w Z (.agg #[.bool s, .slice A l.length c]) s l := ⟨_, rfl, A, c, rfl, hu⟩
 have hck := r5may_any (hI.below hb0)
 have hU : IsU w Z (.slice A l.length c) l := ⟨A, c, rfl, hu⟩
 have hsm := hu.small
 cases hok : okI s l with
 | false =>
   obtain ⟨e1, e2⟩ := int_bad hok
   rw [hok] at hck
   rw [e1, e2]
   have Hck := hid hck
   clear hck e1 e2 hok hI hU hu
   go_enter Tryz.func96, Tryz.ntmps96
   go_wp2_with fail
   refine Hck.out.mono ?_
   rintro e w1 ⟨rfl, hb1⟩
   have hB := from_ hb0 hb1
   go_wp2
   go_ret2
   exact ⟨rfl, hB⟩
 | true =>
   rw [hok] at hck
   have Hck := hid hck
   have hg := okI_good hok
   have hN : IsN w Z (.slice A l.length c) (val l) := hU.num hg
   have hsz := fun (w1 : World) (h : Below w.heap.size w w1) => rsize_good (hN.below h) (by rw [limbs_val l hsm hg]; omega)
   by_cases hlen : l.length ≤ 1
   · have hxW : val l < 18446744073709551616 := by
      have := val_lt hsm
      refine Nat.lt_of_lt_of_le this ?_
      exact Nat.le_trans (Nat.pow_le_pow_right (by omega) hlen) (by omega)
     have hm := fun h => int_many hok h
     have hf := fun h => int_fits hok h
     have hpos : s = true → 0 < val l := fun h => by
      rcases (okI_cases hok hsm).2 with h2 | h2
      · rw [h2] at h; cases h
      · exact h2.2
     have hz : zof s l = if s = true then -(val l : Int) else (val l : Int) := rfl
     rw [hz] at hf
     have hcell : val l ≠ 0 → ∃ b o, A = some ⟨b, o, none⟩ ∧ l.length = 1 ∧ b < w.heap.size ∧ w.cell? ⟨b, o, none⟩ = some (.int .u64 (val l : Int)) := fun h => by
      match l, hlen, h, hu with
      | [], _, h, _ => exact absurd rfl h
      | [x], _, h, hu =>
        obtain ⟨b, o, e, _, hb, _, hc⟩ := hu.open (by simp)
        refine ⟨b, o, e, rfl, hb, ?_⟩
        have := hc 0 (by simp)
        simpa [val] using this
     generalize val l = x at *
     generalize intX s l = X at *
     generalize intE s l = E at *
     have Hcell := hid hcell
     clear hck hok hI hU hu hz hg hN hcell
     rcases (show 9223372036854775808 < x ∨ x = 9223372036854775808 ∨ (x < 9223372036854775808 ∧ 0 < x) ∨ x = 0 by omega) with hx | hx | ⟨hx, hx0⟩ | hx
     · obtain ⟨rfl, rfl⟩ := hm (by omega)
       cases s
       · skip
         obtain ⟨b, o, rfl, hl1, hbb, hc0⟩ := Hcell.out (by omega)
         rw [hl1] at q0 q1 hb0 Hck hsz ⊢
         have hc1 := keepC hb0 hc0
         rw [size_64 (by omega) (by omega)] at hsz
         have d2 : ((x : Int) == 9223372036854775808) = false := beq_eq_false_iff_ne.2 (by omega)
         have Hsz := hid hsz
         clear hm hf hpos hsm hsz Hcell hc0
         go_enter Tryz.func96, Tryz.ntmps96
         go_wp2_with fail
         refine Hck.out.mono ?_
         rintro e w1 ⟨rfl, hb1⟩
         have q0 := keepC hb1 q0
         have q1 := keepC hb1 q1
         have hc1 := keepC hb1 hc1
         have hB := from_ hb0 hb1
         go_wp2_with fail
         refine (Hsz.out _ hB).mono ?_
         rintro e w2 ⟨rfl, rfl⟩
         go_wp2
         go_ret2
         exact ⟨rfl, hB⟩
       · skip
         obtain ⟨b, o, rfl, hl1, hbb, hc0⟩ := Hcell.out (by omega)
         rw [hl1] at q0 q1 hb0 Hck hsz ⊢
         have hc1 := keepC hb0 hc0
         rw [size_64 (by omega) (by omega)] at hsz
         have d2 : ((x : Int) == 9223372036854775808) = false := beq_eq_false_iff_ne.2 (by omega)
         have Hsz := hid hsz
         clear hm hf hpos hsm hsz Hcell hc0
         go_enter Tryz.func96, Tryz.ntmps96
         go_wp2_with fail
         refine Hck.out.mono ?_
         rintro e w1 ⟨rfl, hb1⟩
         have q0 := keepC hb1 q0
         have q1 := keepC hb1 q1
         have hc1 := keepC hb1 hc1
         have hB := from_ hb0 hb1
         go_wp2_with fail
         refine (Hsz.out _ hB).mono ?_
         rintro e w2 ⟨rfl, rfl⟩
         go_wp2
         go_ret2
         exact ⟨rfl, hB⟩
     · subst hx
       cases s
       · obtain ⟨rfl, rfl⟩ := hm (by simp)
         obtain ⟨b, o, rfl, hl1, hbb, hc0⟩ := Hcell.out (by omega)
         rw [hl1] at q0 q1 hb0 Hck hsz ⊢
         have hc1 := keepC hb0 hc0
         rw [size_64 (by omega) (by omega)] at hsz
         have Hsz := hid hsz
         clear hm hf hpos hsm hsz Hcell hc0
         go_enter Tryz.func96, Tryz.ntmps96
         go_wp2_with fail
         refine Hck.out.mono ?_
         rintro e w1 ⟨rfl, hb1⟩
         have q0 := keepC hb1 q0
         have q1 := keepC hb1 q1
         have hc1 := keepC hb1 hc1
         have hB := from_ hb0 hb1
         go_wp2_with fail
         refine (Hsz.out _ hB).mono ?_
         rintro e w2 ⟨rfl, rfl⟩
         go_wp2
         go_ret2
         exact ⟨rfl, hB⟩
       · obtain ⟨rfl, rfl⟩ := hf (by simp; omega)
         simp only [if_true]
         obtain ⟨b, o, rfl, hl1, hbb, hc0⟩ := Hcell.out (by omega)
         rw [hl1] at q0 q1 hb0 Hck hsz ⊢
         have hc1 := keepC hb0 hc0
         rw [size_64 (by omega) (by omega)] at hsz
         have f1 : IntKind.u64.wrap (-9223372036854775808) = 9223372036854775808 := by rw [IntKind.wrap_u64]; omega
         have f2 : IntKind.i64.wrap 9223372036854775808 = -9223372036854775808 := by rw [IntKind.wrap_i64]; omega
         have Hsz := hid hsz
         clear hm hf hpos hsm hsz Hcell hc0
         go_enter Tryz.func96, Tryz.ntmps96
         go_wp2_with fail
         refine Hck.out.mono ?_
         rintro e w1 ⟨rfl, hb1⟩
         have q0 := keepC hb1 q0
         have q1 := keepC hb1 q1
         have hc1 := keepC hb1 hc1
         have hB := from_ hb0 hb1
         go_wp2_with fail
         refine (Hsz.out _ hB).mono ?_
         rintro e w2 ⟨rfl, rfl⟩
         go_wp2
         go_ret2
         exact ⟨rfl, hB⟩
     · cases s
       · obtain ⟨rfl, rfl⟩ := hf ⟨hlen, .inl hx⟩
         simp only [Bool.false_eq_true, if_false]
         obtain ⟨b, o, rfl, hl1, hbb, hc0⟩ := Hcell.out (by omega)
         rw [hl1] at q0 q1 hb0 Hck hsz ⊢
         have hc1 := keepC hb0 hc0
         have hsz1 := size_small hx
         have hsz2 := size_pos (n := x) (by omega)
         generalize size x = z at *
         have g1 : decide ((64 : Int) < (z : Int)) = false := decide_eq_false (by omega)
         have g2 : ((z : Int) == 64) = false := beq_eq_false_iff_ne.2 (by omega)
         have g3 : ((z : Int) == 0) = false := beq_eq_false_iff_ne.2 (by omega)
         have Hsz := hid hsz
         clear hm hf hpos hsm hsz Hcell hc0
         go_enter Tryz.func96, Tryz.ntmps96
         go_wp2_with fail
         refine Hck.out.mono ?_
         rintro e w1 ⟨rfl, hb1⟩
         have q0 := keepC hb1 q0
         have q1 := keepC hb1 q1
         have hc1 := keepC hb1 hc1
         have hB := from_ hb0 hb1
         go_wp2_with fail
         refine (Hsz.out _ hB).mono ?_
         rintro e w2 ⟨rfl, rfl⟩
         go_wp2
         go_ret2
         exact ⟨rfl, hB⟩
       · obtain ⟨rfl, rfl⟩ := hf ⟨hlen, .inl hx⟩
         simp only [if_true]
         obtain ⟨y, hy⟩ : ∃ y, y = 18446744073709551616 - x := ⟨_, rfl⟩
         obtain ⟨b, o, rfl, hl1, hbb, hc0⟩ := Hcell.out (by omega)
         rw [hl1] at q0 q1 hb0 Hck hsz ⊢
         have hc1 := keepC hb0 hc0
         have hsz1 := size_small hx
         have hsz2 := size_pos (n := x) (by omega)
         generalize size x = z at *
         have g1 : decide ((64 : Int) < (z : Int)) = false := decide_eq_false (by omega)
         have g2 : ((z : Int) == 64) = false := beq_eq_false_iff_ne.2 (by omega)
         have g3 : ((z : Int) == 0) = false := beq_eq_false_iff_ne.2 (by omega)
         have f1 : IntKind.u64.wrap (-(x : Int)) = (y : Int) := by rw [IntKind.wrap_u64]; omega
         have f2 : IntKind.i64.wrap (y : Int) = -(x : Int) := by rw [IntKind.wrap_i64]; omega
         have Hsz := hid hsz
         clear hm hf hpos hsm hsz Hcell hy hc0
         go_enter Tryz.func96, Tryz.ntmps96
         go_wp2_with fail
         refine Hck.out.mono ?_
         rintro e w1 ⟨rfl, hb1⟩
         have q0 := keepC hb1 q0
         have q1 := keepC hb1 q1
         have hc1 := keepC hb1 hc1
         have hB := from_ hb0 hb1
         go_wp2_with fail
         refine (Hsz.out _ hB).mono ?_
         rintro e w2 ⟨rfl, rfl⟩
         go_wp2
         go_ret2
         exact ⟨rfl, hB⟩
     · subst hx
       have hs : s = false := by
        cases s
        · rfl
        · have := hpos rfl; omega
       subst hs
       obtain ⟨rfl, rfl⟩ := hf ⟨hlen, .inl (by omega)⟩
       simp only [Bool.false_eq_true, if_false]
       rw [size_zero] at hsz
       have Hsz := hid hsz
       clear hm hf hpos hsm hsz Hcell
       go_enter Tryz.func96, Tryz.ntmps96
       go_wp2_with fail
       refine Hck.out.mono ?_
       rintro e w1 ⟨rfl, hb1⟩
       have q0 := keepC hb1 q0
       have q1 := keepC hb1 q1
       have hB := from_ hb0 hb1
       go_wp2_with fail
       refine (Hsz.out _ hB).mono ?_
       rintro e w2 ⟨rfl, rfl⟩
       go_wp2
       go_ret2
       exact ⟨rfl, hB⟩
   · have hbig : 18446744073709551616 ≤ val l := by
      have h1 := limbs_val l hsm hg
      have h2 : val l ≠ 0 := fun e => by
       rw [e, limbs_zero] at h1
       rw [← h1] at hlen
       simp at hlen
      have h3 := pow_le_len h2
      rw [h1] at h3
      refine Nat.le_trans ?_ h3
      exact Nat.le_trans (show 18446744073709551616 ≤ 18446744073709551616 ^ 1 by omega) (Nat.pow_le_pow_right (by omega) (by omega))
     obtain ⟨e1, e2⟩ := int_many hok (fun h => hlen h.1)
     rw [e1, e2]
     have hs2 := size_big hbig
     generalize size (val l) = z at *
     have g1 : decide ((64 : Int) < (z : Int)) = true := decide_eq_true (by omega)
     have Hsz := hid hsz
     clear hsz hck e1 e2 hok hI hU hu hg hsm hbig hN
     go_enter Tryz.func96, Tryz.ntmps96
     go_wp2_with fail
     refine Hck.out.mono ?_
     rintro e w1 ⟨rfl, hb1⟩
     have q0 := keepC hb1 q0
     have q1 := keepC hb1 q1
     have hB := from_ hb0 hb1
     go_wp2_with fail
     refine (Hsz.out _ hB).mono ?_
     rintro e w2 ⟨rfl, rfl⟩
     go_wp2
     go_ret2
     exact ⟨rfl, hB⟩
end Go.Proofs.YthpngihjcphigaaGreat
