/-
  Fractions of the document: May, two, Check, Add, Sub, Mul. No conditions but bounds on lengths.
-/
import Derived.Deep.RegionHeld3
import Derived.Test.YtceenaegchlbcaaGreatDoorERatP
namespace Go.Proofs.YtceenaegchlbcaaGreatDoor
open Go.RowKit
set_option linter.unusedVariables false
set_option linter.unusedSimpArgs false

set_option maxRecDepth 100000 in
set_option maxHeartbeats 4000000 in
theorem r6may_any {w : World} {Z1 Z2 : Zone} {s : Bool} {l k : List Nat} {A B : Option Addr} {a b : Nat} (u1 : U64s w Z1 A a l) (u2 : U64s w Z2 B b k) (q1 : l.length ≤ 300) (q2 : k.length ≤ 300) :
    Calls Tryz.prog 95 #[.agg #[.bool s, .slice A l.length a, .slice B k.length b]] w fun e w' => e = .returned (.bool (okQ s l k)) ∧ Below w.heap.size w w' := by
  have hB := box_rat w (.bool s) (.slice A l.length a) (.slice B k.length b)
  obtain ⟨b0, b1, b2, _, _, _, _⟩ := Box3.new w (.bool s) (.slice A l.length a) (.slice B k.length b) 48
  have hM := r5may_any (a := .agg #[.bool s, .slice A l.length a]) ⟨_, rfl, A, a, rfl, u1.below hB⟩
  have hG : Hid (∀ W, Below w.heap.size w W → Calls Tryz.prog 51 #[.slice B k.length b] W fun e w' => e = .returned (.bool (good k)) ∧ W = w') := fun W h => may_any (a := .slice B k.length b) ⟨B, b, rfl, u2.below h⟩
  have s1 := u1.small
  have s2 := u2.small
  by_cases o1 : okI s l = true
  · by_cases o2 : good k = true
    · by_cases o3 : 0 < k.length
      · have hC : Hid (∀ W, Below w.heap.size w W → Calls Tryz.prog 143 #[.slice A l.length a, .slice B k.length b] W fun e w' => ∃ v, e = .returned v ∧ IsN w' (new W.heap.size) v (Nat.gcd (val l) (val k)) ∧ Below W.heap.size W w') := fun W h => by
          have n1 : IsN W Z1 (.slice A l.length a) (val l) := IsU.num ⟨A, a, rfl, u1.below h⟩ (okI_good o1)
          have n2 : IsN W Z2 (.slice B k.length b) (val k) := IsU.num ⟨B, b, rfl, u2.below h⟩ o2
          exact common_good n1 n2 (by rw [limbs_val l s1 (okI_good o1)]; omega) (by rw [limbs_val k s2 o2]; omega)
        obtain ⟨O, hO⟩ : ∃ O, O = decide (Nat.gcd (val l) (val k) = 1) := ⟨_, rfl⟩
        have hq : okQ s l k = O := by
          unfold okQ
          rw [o1, o2, decide_eq_true o3, ← hO]
          rfl
        have hS : Hid (∀ W Z v, IsN W Z v (Nat.gcd (val l) (val k)) → Calls Tryz.prog 10 #[v, .slice (some ⟨W.heap.size, 0, none⟩) 1 1] (W.alloc (.cells #[.int .u64 1] 68)) fun e w' => e = .returned (.bool O) ∧ Below (W.alloc (.cells #[.int .u64 1] 68)).heap.size (W.alloc (.cells #[.int .u64 1] 68)) w') := fun W Z v h => by
          have h2 : IsU (W.alloc (.cells #[.int .u64 1] 68)) old (.slice (some ⟨W.heap.size, 0, none⟩) 1 1) [1] := isU_one (x := 1) (by omega) (by refine cell_newest ?_ rfl; simp)
          have h3 := same_dec (IsU.below h ((Below.refl _ W).alloc (Nat.le_refl _) _)) h2
          have h4 : decide (limbs (Nat.gcd (val l) (val k)) = [1]) = O := by
            rw [hO]
            refine decide_eq_decide.2 ⟨fun e => limbs_inj (e.trans (limbs_one (x := 1) (by omega) (by omega)).symm), fun e => by rw [e]; exact limbs_one (by omega) (by omega)⟩
          rwa [h4] at h3
        rw [hq]
        rw [o1] at hM
        rw [o2] at hG
        have o3i : decide ((0 : Int) < (k.length : Int)) = true := decide_eq_true (by omega)
        have o3n : decide (0 < k.length) = true := decide_eq_true o3
        have HM := Lib.hid hM
        have HB := Lib.hid hB
        clear hM hB hO hq o1 o2 o3 s1 s2 u1 u2 q1 q2
        generalize l.length = L at *
        generalize k.length = K at *
        go_enter Tryz.func95, Tryz.ntmps95
        go_wp2_with fail
        refine HM.out.mono ?_
        rintro e w1 ⟨rfl, hc⟩
        replace b1 := keepC hc b1
        replace b2 := keepC hc b2
        have hB1 := from_ HB.out hc
        clear hc
        go_wp2_with fail
        refine (hG.out _ hB1).mono ?_
        rintro e w2 ⟨rfl, rfl⟩
        go_wp2_with fail
        refine (hC.out _ hB1).mono ?_
        rintro e w3 ⟨v, rfl, hv, hc⟩
        have hB3 := from_ hB1 hc
        clear hc
        go_wp2_with fail
        refine (hS.out _ _ _ hv).mono ?_
        rintro e w4 ⟨rfl, hc⟩
        have hB4 := from_ hB3 (step ((Below.refl _ w3).alloc (Nat.le_refl _) _) hc)
        go_wp2
        go_ret
        exact ⟨by first | rfl | simp, hB4⟩
      · have hq : okQ s l k = false := by unfold okQ; rw [decide_eq_false o3]; simp
        rw [hq]
        rw [o1] at hM
        rw [o2] at hG
        have o3i : decide ((0 : Int) < (k.length : Int)) = false := decide_eq_false (by omega)
        have o3n : decide (0 < k.length) = false := decide_eq_false o3
        have HM := Lib.hid hM
        have HB := Lib.hid hB
        clear hM hB hq o1 o2 o3 s1 s2 u1 u2 q1 q2
        generalize l.length = L at *
        generalize k.length = K at *
        go_enter Tryz.func95, Tryz.ntmps95
        go_wp2_with fail
        refine HM.out.mono ?_
        rintro e w1 ⟨rfl, hc⟩
        replace b1 := keepC hc b1
        replace b2 := keepC hc b2
        have hB1 := from_ HB.out hc
        clear hc
        go_wp2_with fail
        refine (hG.out _ hB1).mono ?_
        rintro e w2 ⟨rfl, rfl⟩
        go_wp2
        go_ret
        exact ⟨rfl, hB1⟩
    · have o2 : good k = false := by simpa using o2
      have hq : okQ s l k = false := by unfold okQ; rw [o2]; simp
      rw [hq]
      rw [o1] at hM
      rw [o2] at hG
      have HM := Lib.hid hM
      have HB := Lib.hid hB
      clear hM hB hq o1 o2 s1 s2 u1 u2 q1 q2
      generalize l.length = L at *
      generalize k.length = K at *
      go_enter Tryz.func95, Tryz.ntmps95
      go_wp2_with fail
      refine HM.out.mono ?_
      rintro e w1 ⟨rfl, hc⟩
      replace b1 := keepC hc b1
      replace b2 := keepC hc b2
      have hB1 := from_ HB.out hc
      clear hc
      go_wp2_with fail
      refine (hG.out _ hB1).mono ?_
      rintro e w2 ⟨rfl, rfl⟩
      go_wp2
      go_ret
      exact ⟨rfl, hB1⟩
  · have o1 : okI s l = false := by simpa using o1
    have hq : okQ s l k = false := by unfold okQ; rw [o1]; simp
    rw [hq]
    rw [o1] at hM
    have HM := Lib.hid hM
    have HB := Lib.hid hB
    clear hM hB hq o1 s1 s2 u1 u2 q1 q2 hG
    generalize l.length = L at *
    generalize k.length = K at *
    go_enter Tryz.func95, Tryz.ntmps95
    go_wp2_with fail
    refine HM.out.mono ?_
    rintro e w1 ⟨rfl, hc⟩
    have hB1 := from_ HB.out hc
    go_wp2
    go_ret
    exact ⟨rfl, hB1⟩

set_option maxRecDepth 100000 in
set_option maxHeartbeats 4000000 in
theorem r6check_any {w : World} {Z1 Z2 : Zone} {s : Bool} {l k : List Nat} {A B : Option Addr} {a b : Nat} (u1 : U64s w Z1 A a l) (u2 : U64s w Z2 B b k) (q1 : l.length ≤ 300) (q2 : k.length ≤ 300) :
    Calls Tryz.prog 41 #[.agg #[.bool s, .slice A l.length a, .slice B k.length b]] w fun e w' => e = .returned (.int .i64 (errF s l k)) ∧ Below w.heap.size w w' := by
  have hB := box_rat w (.bool s) (.slice A l.length a) (.slice B k.length b)
  obtain ⟨b0, b1, b2, _, _, _, _⟩ := Box3.new w (.bool s) (.slice A l.length a) (.slice B k.length b) 48
  have hM := r6may_any (s := s) (u1.below hB) (u2.below hB) q1 q2
  have HB := Lib.hid hB
  cases o : okQ s l k
  all_goals
    have e0 : errF s l k = if okQ s l k = true then 0 else 8 := rfl
    rw [o] at e0
    simp at e0
    rw [e0]
    rw [o] at hM
    have HM := Lib.hid hM
    clear hM hB o u1 u2 q1 q2 e0
    go_enter Tryz.func41, Tryz.ntmps41
    go_wp2_with fail
    refine HM.out.mono ?_
    rintro e w1 ⟨rfl, hc⟩
    have hB1 := from_ HB.out hc
    go_wp2
    go_ret
    exact ⟨by first | rfl | simp, hB1⟩

/-- The error of two fractions. -/
def qE (s : Bool) (l k : List Nat) (t : Bool) (l' k' : List Nat) : Int := if okQ s l k = true ∧ okQ t l' k' = true then 0 else 8
set_option maxRecDepth 100000 in
set_option maxHeartbeats 4000000 in
theorem r6two_any {w : World} {Z1 Z2 Z3 Z4 : Zone} {s t : Bool} {l k l' k' : List Nat} {A B C D : Option Addr} {a b c d : Nat} (u1 : U64s w Z1 A a l) (u2 : U64s w Z2 B b k) (u3 : U64s w Z3 C c l') (u4 : U64s w Z4 D d k') (q1 : l.length ≤ 300) (q2 : k.length ≤ 300) (q3 : l'.length ≤ 300) (q4 : k'.length ≤ 300) :
    Calls Tryz.prog 81 #[.agg #[.bool s, .slice A l.length a, .slice B k.length b], .agg #[.bool t, .slice C l'.length c, .slice D k'.length d]] w fun e w' => e = .returned (.int .i64 (qE s l k t l' k')) ∧ Below w.heap.size w w' := by
  obtain ⟨bA, bB, hB⟩ := boxes2Q w (.bool s) (.slice A l.length a) (.slice B k.length b) (.bool t) (.slice C l'.length c) (.slice D k'.length d)
  have hM1 := r6may_any (s := s) (u1.below hB) (u2.below hB) q1 q2
  have hM2 : Hid (∀ W, Below w.heap.size w W → Calls Tryz.prog 95 #[.agg #[.bool t, .slice C l'.length c, .slice D k'.length d]] W fun e w' => e = .returned (.bool (okQ t l' k')) ∧ Below W.heap.size W w') := fun W h => r6may_any (s := t) (u3.below h) (u4.below h) q3 q4
  obtain ⟨b0, b1, b2, _, _, _, _⟩ := bB
  obtain ⟨a0, a1, a2, _, _, _, _⟩ := bA
  have HB := Lib.hid hB
  have hcase : (okQ s l k = false ∧ qE s l k t l' k' = 8) ∨ (okQ s l k = true ∧ okQ t l' k' = false ∧ qE s l k t l' k' = 8) ∨ (okQ s l k = true ∧ okQ t l' k' = true ∧ qE s l k t l' k' = 0) := by
    unfold qE
    cases okQ s l k <;> cases okQ t l' k' <;> simp
  generalize qE s l k t l' k' = E at *
  clear hB u1 u2 u3 u4 q1 q2 q3 q4
  generalize okQ s l k = o1 at *
  generalize okQ t l' k' = o2 at *
  generalize l.length = L1 at *
  generalize k.length = L2 at *
  generalize l'.length = L3 at *
  generalize k'.length = L4 at *
  have HM1 := Lib.hid hM1
  clear hM1
  rcases hcase with ⟨rfl, rfl⟩ | ⟨rfl, rfl, rfl⟩ | ⟨rfl, rfl, rfl⟩
  · go_enter Tryz.func81, Tryz.ntmps81
    go_wp2_with fail
    refine HM1.out.mono ?_
    rintro e w1 ⟨rfl, hc⟩
    have hB1 := from_ HB.out hc
    go_wp2
    go_ret
    exact ⟨rfl, hB1⟩
  all_goals
    go_enter Tryz.func81, Tryz.ntmps81
    go_wp2_with fail
    refine HM1.out.mono ?_
    rintro e w1 ⟨rfl, hc⟩
    replace b0 := keepC hc b0
    replace b1 := keepC hc b1
    replace b2 := keepC hc b2
    have hB1 := from_ HB.out hc
    clear hc
    go_wp2_with fail
    refine (hM2.out _ hB1).mono ?_
    rintro e w2 ⟨rfl, hc⟩
    have hB2 := from_ hB1 hc
    go_wp2
    go_ret
    exact ⟨rfl, hB2⟩

set_option maxRecDepth 100000 in
set_option maxHeartbeats 4000000 in
theorem r6add_err {w : World} {Z1 Z2 Z3 Z4 : Zone} {s t : Bool} {l k l' k' : List Nat} {A B C D : Option Addr} {a b c d : Nat} (u1 : U64s w Z1 A a l) (u2 : U64s w Z2 B b k) (u3 : U64s w Z3 C c l') (u4 : U64s w Z4 D d k') (q1 : l.length ≤ 300) (q2 : k.length ≤ 300) (q3 : l'.length ≤ 300) (q4 : k'.length ≤ 300) (ho : ¬ (okQ s l k = true ∧ okQ t l' k' = true)) :
    Calls Tryz.prog 24 #[.agg #[.bool s, .slice A l.length a, .slice B k.length b], .agg #[.bool t, .slice C l'.length c, .slice D k'.length d]] w fun e w' => e = .returned (.tuple #[.agg #[.bool false, .slice none 0 0, .slice none 0 0], .int .i64 8]) ∧ Below w.heap.size w w' := by
  obtain ⟨bA, bB, bR, hB0⟩ := boxesQ w (.bool s) (.slice A l.length a) (.slice B k.length b) (.bool t) (.slice C l'.length c) (.slice D k'.length d) (.bool false) (.slice none 0 0) (.slice none 0 0)
  have hT := r6two_any (s := s) (t := t) (u1.below hB0) (u2.below hB0) (u3.below hB0) (u4.below hB0) q1 q2 q3 q4
  rw [show qE s l k t l' k' = 8 from if_neg ho] at hT
  have HT := Lib.hid hT
  have HB0 := Lib.hid hB0
  obtain ⟨a0, a1, a2, _, _, _, _⟩ := bA
  obtain ⟨b0, b1, b2, _, _, _, _⟩ := bB
  clear u1 u2 u3 u4 q1 q2 q3 q4 ho hB0 hT
  generalize l.length = L1 at *
  generalize k.length = L2 at *
  generalize l'.length = L3 at *
  generalize k'.length = L4 at *
  go_enter Tryz.func24, Tryz.ntmps24
  go_wp2_with fail
  refine HT.out.mono ?_
  rintro e w1 ⟨rfl, hc⟩
  have bR1 := bR.below hc
  have HP := Lib.hid (bR1.put (from_ HB0.out hc) (by omega) (.bool false) (.slice none 0 0) (.slice none 0 0))
  obtain ⟨qq0, qq1, qq2, ff0, ff1, ff2, _⟩ := (show Box3 w1 (w.heap.size + 1 + 1) _ _ _ from bR1)
  clear a0 a1 a2 b0 b1 b2 bR hc
  go_wp2
  refine bodyPost_ret (res_rat2 rfl _ (w.heap.size + 2) rfl HP.out.c0 HP.out.c1 HP.out.c2) rfl ?_
  exact ⟨rfl, HP.out.bel⟩

set_option maxRecDepth 100000 in
set_option maxHeartbeats 4000000 in
theorem r6add_ok {w : World} {Z1 Z2 Z3 Z4 : Zone} {s t : Bool} {l k l' k' : List Nat} {A B C D : Option Addr} {a b c d : Nat} {p q z : Rat} {r : Bool} {la ld : List Nat} (hp : NmQ p s l k) (hq : NmQ q t l' k') (hz : NmQ z r la ld) (he : p + q = z) (u1 : U64s w Z1 A a l) (u2 : U64s w Z2 B b k) (u3 : U64s w Z3 C c l') (u4 : U64s w Z4 D d k') (q1 : l.length ≤ 300) (q2 : k.length ≤ 300) (q3 : l'.length ≤ 300) (q4 : k'.length ≤ 300) :
    Calls Tryz.prog 24 #[.agg #[.bool s, .slice A l.length a, .slice B k.length b], .agg #[.bool t, .slice C l'.length c, .slice D k'.length d]] w fun e w' => ∃ An cn Ad cd, e = .returned (.tuple #[.agg #[.bool r, .slice An la.length cn, .slice Ad ld.length cd], .int .i64 0]) ∧ U64s w' (new w.heap.size) An cn la ∧ U64s w' (new w.heap.size) Ad cd ld ∧ Below w.heap.size w w' := by
  obtain ⟨bA, bB, bR, hB0⟩ := boxesQ w (.bool s) (.slice A l.length a) (.slice B k.length b) (.bool t) (.slice C l'.length c) (.slice D k'.length d) (.bool false) (.slice none 0 0) (.slice none 0 0)
  have hT := r6two_any (s := s) (t := t) (u1.below hB0) (u2.below hB0) (u3.below hB0) (u4.below hB0) (by omega) (by omega) (by omega) (by omega)
  rw [show qE s l k t l' k' = 0 from if_pos ⟨hp.ok, hq.ok⟩] at hT
  have HT := Lib.hid hT
  have HB0 := Lib.hid hB0
  have CS : Hid (∀ W, Below w.heap.size w W → Calls Tryz.prog 82 #[.agg #[.bool s, .slice A l.length a, .slice B k.length b], .agg #[.bool t, .slice C l'.length c, .slice D k'.length d]] W fun e w' => ∃ An cn Ad cd, e = .returned (.agg #[.bool r, .slice An la.length cn, .slice Ad ld.length cd]) ∧ U64s w' (new W.heap.size) An cn la ∧ U64s w' (new W.heap.size) Ad cd ld ∧ Below W.heap.size W w') := fun W h => r6sum_q hp hq hz he (u1.below h) (u2.below h) (u3.below h) (u4.below h) q1 q2 q3 q4
  obtain ⟨a0, a1, a2, _, _, _, _⟩ := bA
  obtain ⟨b0, b1, b2, _, _, _, _⟩ := bB
  clear u1 u2 u3 u4 q1 q2 q3 q4 hp hq hz he hB0 hT
  generalize l.length = L1 at *
  generalize k.length = L2 at *
  generalize l'.length = L3 at *
  generalize k'.length = L4 at *
  go_enter Tryz.func24, Tryz.ntmps24
  go_wp2_with fail
  refine HT.out.mono ?_
  rintro e w1 ⟨rfl, hc⟩
  replace a0 := keepC hc a0
  replace a1 := keepC hc a1
  replace a2 := keepC hc a2
  replace b0 := keepC hc b0
  replace b1 := keepC hc b1
  replace b2 := keepC hc b2
  have bR1 := bR.below hc
  have hB1 := from_ HB0.out hc
  clear hc bR
  go_wp2_with fail
  refine (CS.out _ hB1).mono ?_
  rintro e w2 ⟨An, cn, Ad, cd, rfl, v3, v4, hc⟩
  have zl := bR1.lt
  have bR2 := bR1.below hc
  have HP := Lib.hid (bR2.put (from_ hB1 hc) (by omega) (.bool r) (.slice An la.length cn) (.slice Ad ld.length cd))
  have HN5 := Lib.hid ((HP.out.keep (fun (h : w1.heap.size ≤ _) => by omega) v3).mono (Y := new w.heap.size) (new_le hB1.size))
  have HD5 := Lib.hid ((HP.out.keep (fun (h : w1.heap.size ≤ _) => by omega) v4).mono (Y := new w.heap.size) (new_le hB1.size))
  obtain ⟨qq0, qq1, qq2, ff0, ff1, ff2, _⟩ := (show Box3 w2 (w.heap.size + 1 + 1) _ _ _ from bR2)
  clear a0 a1 a2 b0 b1 b2 hc v3 v4 zl
  go_wp2
  refine bodyPost_ret (res_rat2 rfl _ (w.heap.size + 2) rfl HP.out.c0 HP.out.c1 HP.out.c2) rfl ?_
  exact ⟨_, _, _, _, rfl, HN5.out, HD5.out, HP.out.bel⟩

set_option maxRecDepth 100000 in
set_option maxHeartbeats 4000000 in
theorem r6mul_err {w : World} {Z1 Z2 Z3 Z4 : Zone} {s t : Bool} {l k l' k' : List Nat} {A B C D : Option Addr} {a b c d : Nat} (u1 : U64s w Z1 A a l) (u2 : U64s w Z2 B b k) (u3 : U64s w Z3 C c l') (u4 : U64s w Z4 D d k') (q1 : l.length ≤ 300) (q2 : k.length ≤ 300) (q3 : l'.length ≤ 300) (q4 : k'.length ≤ 300) (ho : ¬ (okQ s l k = true ∧ okQ t l' k' = true)) :
    Calls Tryz.prog 28 #[.agg #[.bool s, .slice A l.length a, .slice B k.length b], .agg #[.bool t, .slice C l'.length c, .slice D k'.length d]] w fun e w' => e = .returned (.tuple #[.agg #[.bool false, .slice none 0 0, .slice none 0 0], .int .i64 8]) ∧ Below w.heap.size w w' := by
  obtain ⟨bA, bB, bR, hB0⟩ := boxesQ w (.bool s) (.slice A l.length a) (.slice B k.length b) (.bool t) (.slice C l'.length c) (.slice D k'.length d) (.bool false) (.slice none 0 0) (.slice none 0 0)
  have hT := r6two_any (s := s) (t := t) (u1.below hB0) (u2.below hB0) (u3.below hB0) (u4.below hB0) q1 q2 q3 q4
  rw [show qE s l k t l' k' = 8 from if_neg ho] at hT
  have HT := Lib.hid hT
  have HB0 := Lib.hid hB0
  obtain ⟨a0, a1, a2, _, _, _, _⟩ := bA
  obtain ⟨b0, b1, b2, _, _, _, _⟩ := bB
  clear u1 u2 u3 u4 q1 q2 q3 q4 ho hB0 hT
  generalize l.length = L1 at *
  generalize k.length = L2 at *
  generalize l'.length = L3 at *
  generalize k'.length = L4 at *
  go_enter Tryz.func28, Tryz.ntmps28
  go_wp2_with fail
  refine HT.out.mono ?_
  rintro e w1 ⟨rfl, hc⟩
  have bR1 := bR.below hc
  have HP := Lib.hid (bR1.put (from_ HB0.out hc) (by omega) (.bool false) (.slice none 0 0) (.slice none 0 0))
  obtain ⟨qq0, qq1, qq2, ff0, ff1, ff2, _⟩ := (show Box3 w1 (w.heap.size + 1 + 1) _ _ _ from bR1)
  clear a0 a1 a2 b0 b1 b2 bR hc
  go_wp2
  refine bodyPost_ret (res_rat2 rfl _ (w.heap.size + 2) rfl HP.out.c0 HP.out.c1 HP.out.c2) rfl ?_
  exact ⟨rfl, HP.out.bel⟩

set_option maxRecDepth 100000 in
set_option maxHeartbeats 4000000 in
theorem r6mul_ok {w : World} {Z1 Z2 Z3 Z4 : Zone} {s t : Bool} {l k l' k' : List Nat} {A B C D : Option Addr} {a b c d : Nat} {p q z : Rat} {r : Bool} {la ld : List Nat} (hp : NmQ p s l k) (hq : NmQ q t l' k') (hz : NmQ z r la ld) (he : p * q = z) (u1 : U64s w Z1 A a l) (u2 : U64s w Z2 B b k) (u3 : U64s w Z3 C c l') (u4 : U64s w Z4 D d k') (q1 : l.length ≤ 300) (q2 : k.length ≤ 300) (q3 : l'.length ≤ 300) (q4 : k'.length ≤ 300) :
    Calls Tryz.prog 28 #[.agg #[.bool s, .slice A l.length a, .slice B k.length b], .agg #[.bool t, .slice C l'.length c, .slice D k'.length d]] w fun e w' => ∃ An cn Ad cd, e = .returned (.tuple #[.agg #[.bool r, .slice An la.length cn, .slice Ad ld.length cd], .int .i64 0]) ∧ U64s w' (new w.heap.size) An cn la ∧ U64s w' (new w.heap.size) Ad cd ld ∧ Below w.heap.size w w' := by
  obtain ⟨bA, bB, bR, hB0⟩ := boxesQ w (.bool s) (.slice A l.length a) (.slice B k.length b) (.bool t) (.slice C l'.length c) (.slice D k'.length d) (.bool false) (.slice none 0 0) (.slice none 0 0)
  have hT := r6two_any (s := s) (t := t) (u1.below hB0) (u2.below hB0) (u3.below hB0) (u4.below hB0) (by omega) (by omega) (by omega) (by omega)
  rw [show qE s l k t l' k' = 0 from if_pos ⟨hp.ok, hq.ok⟩] at hT
  have HT := Lib.hid hT
  have HB0 := Lib.hid hB0
  have CS : Hid (∀ W, Below w.heap.size w W → Calls Tryz.prog 88 #[.agg #[.bool s, .slice A l.length a, .slice B k.length b], .agg #[.bool t, .slice C l'.length c, .slice D k'.length d]] W fun e w' => ∃ An cn Ad cd, e = .returned (.agg #[.bool r, .slice An la.length cn, .slice Ad ld.length cd]) ∧ U64s w' (new W.heap.size) An cn la ∧ U64s w' (new W.heap.size) Ad cd ld ∧ Below W.heap.size W w') := fun W h => r6mul_q hp hq hz he (u1.below h) (u2.below h) (u3.below h) (u4.below h) q1 q2 q3 q4
  obtain ⟨a0, a1, a2, _, _, _, _⟩ := bA
  obtain ⟨b0, b1, b2, _, _, _, _⟩ := bB
  clear u1 u2 u3 u4 q1 q2 q3 q4 hp hq hz he hB0 hT
  generalize l.length = L1 at *
  generalize k.length = L2 at *
  generalize l'.length = L3 at *
  generalize k'.length = L4 at *
  go_enter Tryz.func28, Tryz.ntmps28
  go_wp2_with fail
  refine HT.out.mono ?_
  rintro e w1 ⟨rfl, hc⟩
  replace a0 := keepC hc a0
  replace a1 := keepC hc a1
  replace a2 := keepC hc a2
  replace b0 := keepC hc b0
  replace b1 := keepC hc b1
  replace b2 := keepC hc b2
  have bR1 := bR.below hc
  have hB1 := from_ HB0.out hc
  clear hc bR
  go_wp2_with fail
  refine (CS.out _ hB1).mono ?_
  rintro e w2 ⟨An, cn, Ad, cd, rfl, v3, v4, hc⟩
  have zl := bR1.lt
  have bR2 := bR1.below hc
  have HP := Lib.hid (bR2.put (from_ hB1 hc) (by omega) (.bool r) (.slice An la.length cn) (.slice Ad ld.length cd))
  have HN5 := Lib.hid ((HP.out.keep (fun (h : w1.heap.size ≤ _) => by omega) v3).mono (Y := new w.heap.size) (new_le hB1.size))
  have HD5 := Lib.hid ((HP.out.keep (fun (h : w1.heap.size ≤ _) => by omega) v4).mono (Y := new w.heap.size) (new_le hB1.size))
  obtain ⟨qq0, qq1, qq2, ff0, ff1, ff2, _⟩ := (show Box3 w2 (w.heap.size + 1 + 1) _ _ _ from bR2)
  clear a0 a1 a2 b0 b1 b2 hc v3 v4 zl
  go_wp2
  refine bodyPost_ret (res_rat2 rfl _ (w.heap.size + 2) rfl HP.out.c0 HP.out.c1 HP.out.c2) rfl ?_
  exact ⟨_, _, _, _, rfl, HN5.out, HD5.out, HP.out.bel⟩

set_option maxRecDepth 100000 in
set_option maxHeartbeats 4000000 in
theorem r6sub_err {w : World} {Z1 Z2 Z3 Z4 : Zone} {s t : Bool} {l k l' k' : List Nat} {A B C D : Option Addr} {a b c d : Nat} (u1 : U64s w Z1 A a l) (u2 : U64s w Z2 B b k) (u3 : U64s w Z3 C c l') (u4 : U64s w Z4 D d k') (q1 : l.length ≤ 300) (q2 : k.length ≤ 300) (q3 : l'.length ≤ 300) (q4 : k'.length ≤ 300) (ho : ¬ (okQ s l k = true ∧ okQ t l' k' = true)) :
    Calls Tryz.prog 26 #[.agg #[.bool s, .slice A l.length a, .slice B k.length b], .agg #[.bool t, .slice C l'.length c, .slice D k'.length d]] w fun e w' => e = .returned (.tuple #[.agg #[.bool false, .slice none 0 0, .slice none 0 0], .int .i64 8]) ∧ Below w.heap.size w w' := by
  obtain ⟨bA, bB, bR, hB0⟩ := boxesQ w (.bool s) (.slice A l.length a) (.slice B k.length b) (.bool t) (.slice C l'.length c) (.slice D k'.length d) (.bool false) (.slice none 0 0) (.slice none 0 0)
  have hT := r6two_any (s := s) (t := t) (u1.below hB0) (u2.below hB0) (u3.below hB0) (u4.below hB0) q1 q2 q3 q4
  rw [show qE s l k t l' k' = 8 from if_neg ho] at hT
  have HT := Lib.hid hT
  have HB0 := Lib.hid hB0
  obtain ⟨a0, a1, a2, _, _, _, _⟩ := bA
  obtain ⟨b0, b1, b2, _, _, _, _⟩ := bB
  clear u1 u2 u3 u4 q1 q2 q3 q4 ho hB0 hT
  generalize l.length = L1 at *
  generalize k.length = L2 at *
  generalize l'.length = L3 at *
  generalize k'.length = L4 at *
  go_enter Tryz.func26, Tryz.ntmps26
  go_wp2_with fail
  refine HT.out.mono ?_
  rintro e w1 ⟨rfl, hc⟩
  have bR1 := bR.below hc
  have HP := Lib.hid (bR1.put (from_ HB0.out hc) (by omega) (.bool false) (.slice none 0 0) (.slice none 0 0))
  obtain ⟨qq0, qq1, qq2, ff0, ff1, ff2, _⟩ := (show Box3 w1 (w.heap.size + 1 + 1) _ _ _ from bR1)
  clear a0 a1 a2 b0 b1 b2 bR hc
  go_wp2
  refine bodyPost_ret (res_rat2 rfl _ (w.heap.size + 2) rfl HP.out.c0 HP.out.c1 HP.out.c2) rfl ?_
  exact ⟨rfl, HP.out.bel⟩

set_option maxRecDepth 100000 in
set_option maxHeartbeats 4000000 in
theorem r6sub_ok {w : World} {Z1 Z2 Z3 Z4 : Zone} {s t : Bool} {l k l' k' : List Nat} {A B C D : Option Addr} {a b c d : Nat} {p q z : Rat} {r : Bool} {la ld : List Nat} (hp : NmQ p s l k) (hq : NmQ q t l' k') (hz : NmQ z r la ld) (he : p - q = z) (u1 : U64s w Z1 A a l) (u2 : U64s w Z2 B b k) (u3 : U64s w Z3 C c l') (u4 : U64s w Z4 D d k') (q1 : l.length ≤ 300) (q2 : k.length ≤ 300) (q3 : l'.length ≤ 300) (q4 : k'.length ≤ 300) :
    Calls Tryz.prog 26 #[.agg #[.bool s, .slice A l.length a, .slice B k.length b], .agg #[.bool t, .slice C l'.length c, .slice D k'.length d]] w fun e w' => ∃ An cn Ad cd, e = .returned (.tuple #[.agg #[.bool r, .slice An la.length cn, .slice Ad ld.length cd], .int .i64 0]) ∧ U64s w' (new w.heap.size) An cn la ∧ U64s w' (new w.heap.size) Ad cd ld ∧ Below w.heap.size w w' := by
  obtain ⟨bA, bB, bR, hB0⟩ := boxesQ w (.bool s) (.slice A l.length a) (.slice B k.length b) (.bool t) (.slice C l'.length c) (.slice D k'.length d) (.bool false) (.slice none 0 0) (.slice none 0 0)
  have hT := r6two_any (s := s) (t := t) (u1.below hB0) (u2.below hB0) (u3.below hB0) (u4.below hB0) (by omega) (by omega) (by omega) (by omega)
  rw [show qE s l k t l' k' = 0 from if_pos ⟨hp.ok, hq.ok⟩] at hT
  have HT := Lib.hid hT
  have HB0 := Lib.hid hB0
  obtain ⟨t2, ht2⟩ : ∃ t2, t2 = (!t && decide (0 < l'.length)) := ⟨_, rfl⟩
  have hnq := nmq_neg hq
  rw [← ht2] at hnq
  have CT : Hid (∀ W, Below w.heap.size w W → Calls Tryz.prog 85 #[.agg #[.bool t, .slice C l'.length c, .slice D k'.length d]] W fun e w' => ∃ An cn, e = .returned (.agg #[.bool t2, .slice An l'.length cn, .slice D k'.length d]) ∧ U64s w' (new W.heap.size) An cn l' ∧ Below W.heap.size W w') := fun W h => r6turned_n ht2.symm (u3.below h) q3
  have CS : Hid (∀ W Z An cn, Below w.heap.size w W → U64s W Z An cn l' → Calls Tryz.prog 82 #[.agg #[.bool s, .slice A l.length a, .slice B k.length b], .agg #[.bool t2, .slice An l'.length cn, .slice D k'.length d]] W fun e w' => ∃ Am cm Ad cd, e = .returned (.agg #[.bool r, .slice Am la.length cm, .slice Ad ld.length cd]) ∧ U64s w' (new W.heap.size) Am cm la ∧ U64s w' (new W.heap.size) Ad cd ld ∧ Below W.heap.size W w') := fun W Z An cn h hu => r6sum_q hp hnq hz (by rw [← he, Rat.sub_eq_add_neg]) (u1.below h) (u2.below h) hu (u4.below h) q1 q2 q3 q4
  have hs0 := And.intro bA.c0 (And.intro bA.c1 (And.intro bA.c2 (And.intro bB.c0 (And.intro bB.c1 bB.c2))))
  have HS := Lib.hid hs0
  have BRx : Box3 _ (w.heap.size + 1 + 1) _ _ _ := bR
  have HR := Lib.hid BRx
  obtain ⟨a0, a1, a2, _, _, _, _⟩ := bA
  obtain ⟨b0, b1, b2, _, _, _, _⟩ := bB
  clear u1 u2 u3 u4 q1 q2 q3 q4 hp hq hz he hnq ht2 hB0 hT bR BRx hs0
  go_enter Tryz.func26, Tryz.ntmps26
  go_wp2_with fail
  refine HT.out.mono ?_
  rintro e w1 ⟨rfl, hc⟩
  have hs := boxQ_keep (boxQ_keep HS.out hc) (Below.refl _ _).drew
  have Hc := Lib.hid ((from_ HB0.out hc).drew)
  replace HR := Lib.hid ((HR.out.below hc).below (Below.refl _ _).drew)
  clear a0 a1 a2 b0 b1 b2 HS HT hc
  go_wp2
  generalize hgR : w.heap.size + 1 + 1 = gR at *
  have N1 := Lib.hid (show gR ≠ w.heap.size by omega)
  have N2 := Lib.hid (show gR ≠ w.heap.size + 1 by omega)
  have N3 := Lib.hid (show w.heap.size ≤ gR by omega)
  clear hgR
  first | go_region_held3 (fun w' => w'.cell? ⟨w.heap.size, 0, none⟩ = some (.bool s) ∧ w'.cell? ⟨w.heap.size, 1, none⟩ = some (.slice A l.length a) ∧ w'.cell? ⟨w.heap.size, 2, none⟩ = some (.slice B k.length b) ∧ w'.cell? ⟨(w.heap.size + 1), 0, none⟩ = some (.bool t) ∧ w'.cell? ⟨(w.heap.size + 1), 1, none⟩ = some (.slice C l'.length c) ∧ w'.cell? ⟨(w.heap.size + 1), 2, none⟩ = some (.slice D k'.length d))
    (first
      | with_reducible exact hs
      | with_reducible exact boxQ_st3 N1.out N2.out hs)
    (first
      | (go_at_call 85; with_reducible refine (CT.out _ Hc.out).mono ?_; rintro e w' ⟨An, cn, rfl, v1, hc⟩; replace hs := boxQ_keep hs hc; have Hp := Hc; replace Hc := Lib.hid (from_ Hc.out hc); have zl := HR.out.lt; replace HR := Lib.hid (HR.out.below hc))
      | (go_at_call 82; with_reducible refine (CS.out _ _ _ _ Hc.out v1).mono ?_; rintro e w' ⟨An2, cn2, Ad, cd, rfl, v3, v4, hc⟩; replace hs := boxQ_keep hs hc; have Hp := Hc; replace Hc := Lib.hid (from_ Hc.out hc); have zl := HR.out.lt; replace HR := Lib.hid (HR.out.below hc); obtain ⟨qq0, qq1, qq2, ff0, ff1, ff2, _⟩ := id HR.out)) | fail
  all_goals
    have HP := Lib.hid (HR.out.put Hc.out N3.out (.bool r) (.slice An2 la.length cn2) (.slice Ad ld.length cd))
    have HN5 := Lib.hid ((HP.out.keep (fun (h : _ ≤ gR) => by omega) v3).mono (Y := new w.heap.size) (new_le Hp.out.size))
    have HD5 := Lib.hid ((HP.out.keep (fun (h : _ ≤ gR) => by omega) v4).mono (Y := new w.heap.size) (new_le Hp.out.size))
    clear v3 v4
    go_wp2
    refine bodyPost_ret (res_rat2 rfl _ gR rfl HP.out.c0 HP.out.c1 HP.out.c2) rfl ?_
    exact ⟨_, _, _, _, rfl, HN5.out, HD5.out, HP.out.bel⟩

end Go.Proofs.YtceenaegchlbcaaGreatDoor
