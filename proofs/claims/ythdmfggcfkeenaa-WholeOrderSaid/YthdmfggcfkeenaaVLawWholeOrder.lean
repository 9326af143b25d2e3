/-
  facetroomlaw05.WholeOrder, walked. No conditions.
-/
import Derived.Test.YthdmfggcfkeenaaVWhN
namespace Go.Proofs.Ythdmfggcfkeenaa
open Go.RowKit
set_option linter.unusedVariables false
set_option linter.unusedSimpArgs false

theorem sgn_sign (x : Int) : sgn x = Int.sign x := by
  unfold sgn
  rcases Int.lt_trichotomy x 0 with h | h | h
  · rw [if_neg (by omega), if_pos h, Int.sign_eq_neg_one_of_neg h]
  · subst h; rfl
  · rw [if_neg (by omega), if_neg (by omega), Int.sign_eq_one_of_pos h]
theorem sgn_three (x : Int) : sgn x = -1 ∨ sgn x = 0 ∨ sgn x = 1 := by 
  unfold sgn
  split
  · simp
  · split <;> simp
theorem sgn_nought {x : Int} : sgn x = 0 ↔ x = 0 := by
  unfold sgn
  split
  · exact ⟨fun _ => by assumption, fun _ => rfl⟩
  · split
    · exact ⟨fun h => by simp at h, fun h => by omega⟩
    · exact ⟨fun h => by simp at h, fun h => by omega⟩
theorem sgn_turn (x y : Int) : sgn (y - x) = -sgn (x - y) := by
  rw [sgn_sign, sgn_sign, ← Int.sign_neg, Int.neg_sub]
theorem sgn_times (x y z : Int) : sgn (x * z - y * z) = sgn (x - y) * sgn z := by
  rw [sgn_sign, sgn_sign, sgn_sign, ← Int.sign_mul, Int.sub_mul]
theorem nm_one {x y : Int} {s : Bool} {l : List Nat} (h1 : Nm x s l) (h2 : Nm y s l) : x = y := by
  have e1 := zof_z x
  have e2 := zof_z y
  rw [← h1.1, ← h1.2] at e1
  rw [← h2.1, ← h2.2] at e2
  exact e1.symm.trans e2
theorem same_q {w : World} {Z1 Z2 : Zone} {s t : Bool} {l k : List Nat} {A B : Option Addr} {c d : Nat} {q : Bool} (hq : decide (s = t ∧ l = k) = q) (u1 : U64s w Z1 A c l) (u2 : U64s w Z2 B d k) :
    Calls Try.prog 50 #[.agg #[.bool s, .slice A l.length c], .agg #[.bool t, .slice B k.length d]] w fun e w' => e = .returned (.bool q) ∧ Below w.heap.size w w' := by
  subst hq
  exact same5_any ⟨_, rfl, A, c, rfl, u1⟩ ⟨_, rfl, B, d, rfl, u2⟩
theorem sign_x {w : World} {Z1 : Zone} {s : Bool} {l : List Nat} {A : Option Addr} {c : Nat} (u1 : U64s w Z1 A c l) :
    Calls Try.prog 44 #[.agg #[.bool s, .slice A l.length c]] w fun e w' => (∃ g h, e = .returned (.tuple #[.int .i64 g, .int .i64 h])) ∧ Below w.heap.size w w' :=
  (wSign_all (a := .agg #[.bool s, .slice A l.length c]) ⟨_, rfl, A, c, rfl, u1⟩).mono fun e w' ⟨h, hb⟩ => ⟨⟨_, _, h⟩, hb⟩
theorem ocmp_bad {w : World} {Z1 Z2 : Zone} {s t : Bool} {l k : List Nat} {A B : Option Addr} {c d : Nat} (h : ¬ (okI s l = true ∧ okI t k = true)) (hl : l.length ≤ 50) (hl2 : k.length ≤ 50) (u1 : U64s w Z1 A c l) (u2 : U64s w Z2 B d k) :
    Calls Try.prog 42 #[.agg #[.bool s, .slice A l.length c], .agg #[.bool t, .slice B k.length d]] w fun e w' => e = .returned (.tuple #[.int .i64 0, .int .i64 8]) ∧ Below w.heap.size w w' := by
  have h3 := wcmp_all (a := .agg #[.bool s, .slice A l.length c]) (b := .agg #[.bool t, .slice B k.length d]) ⟨_, rfl, A, c, rfl, u1⟩ ⟨_, rfl, B, d, rfl, u2⟩ (by omega) (by omega)
  have e1 : errO s l t k = 8 := by unfold errO; rw [if_neg h]
  have e2 : cmpO s l t k = 0 := by unfold cmpO; rw [if_neg h]
  rwa [e1, e2] at h3
theorem osub_bad {w : World} {Z1 Z2 : Zone} {s t : Bool} {l k : List Nat} {A B : Option Addr} {c d : Nat} (h : ¬ (okI s l = true ∧ okI t k = true)) (hl : l.length ≤ 50) (hl2 : k.length ≤ 50) (u1 : U64s w Z1 A c l) (u2 : U64s w Z2 B d k) :
    Calls Try.prog 38 #[.agg #[.bool s, .slice A l.length c], .agg #[.bool t, .slice B k.length d]] w fun e w' => ∃ Av cv, e = .returned (.tuple #[.agg #[.bool false, .slice Av 0 cv], .int .i64 8]) ∧ U64s w' (new w.heap.size) Av cv [] ∧ Below w.heap.size w w' := by
  have h3 := wsub_all (a := .agg #[.bool s, .slice A l.length c]) (b := .agg #[.bool t, .slice B k.length d]) ⟨_, rfl, A, c, rfl, u1⟩ ⟨_, rfl, B, d, rfl, u2⟩ (by omega) (by omega)
  have e1 : errO s l t k = 8 := by unfold errO; rw [if_neg h]
  have e2 : opP (· - ·) s l t k = (false, []) := by unfold opP; rw [if_neg h]
  rw [e1, e2] at h3
  refine h3.mono ?_
  rintro e w' ⟨_, rfl, ⟨_, rfl, Av, cv, rfl, h4⟩, h5⟩
  exact ⟨Av, cv, rfl, h4, h5⟩
theorem osign_bad {w : World} {Z1 : Zone} {s : Bool} {l : List Nat} {A : Option Addr} {c : Nat} (h : okI s l = false) (u1 : U64s w Z1 A c l) :
    Calls Try.prog 44 #[.agg #[.bool s, .slice A l.length c]] w fun e w' => e = .returned (.tuple #[.int .i64 0, .int .i64 8]) ∧ Below w.heap.size w w' := by
  have h3 := wSign_all (a := .agg #[.bool s, .slice A l.length c]) ⟨_, rfl, A, c, rfl, u1⟩
  have e1 : errC s l = 8 := by unfold errC; rw [if_neg (by rw [h]; decide)]
  have e2 : sgX s l = 0 := by unfold sgX; rw [if_neg (by rw [h]; decide)]
  rwa [e1, e2] at h3

set_option maxRecDepth 100000 in
set_option maxHeartbeats 4000000 in
theorem lawWholeOrder {w : World} {Z1 Z2 Z3 : Zone} {a b c : Value} {s t r : Bool} {l k m : List Nat} (ha : IsI w Z1 a s l) (hb : IsI w Z2 b t k) (hc : IsI w Z3 c r m) :
    Calls Try.prog 12 #[a, b, c] w fun e w' => e = .returned (.bool true) ∧ Below w.heap.size w w' := by
  obtain ⟨_, rfl, A, ca, rfl, hu⟩ := ha
  obtain ⟨_, rfl, B, cb, rfl, hv⟩ := hb
  obtain ⟨_, rfl, C, cc, rfl, hx⟩ := hc
  obtain ⟨bA, bB, bC, hB⟩ := boxes3 w (.bool s) (.slice A l.length ca) (.bool t) (.slice B k.length cb) (.bool r) (.slice C m.length cc) 52
  obtain ⟨a0, a1, _, _, _⟩ := bA
  obtain ⟨b0, b1, _, _, _⟩ := bB
  obtain ⟨e0, e1, _, _, _⟩ := (show Box _ (w.heap.size + 1 + 1) _ _ from bC)
  have uA := hu.below hB
  have uB := hv.below hB
  have uC := hx.below hB
  have hsa := hu.small
  have hsb := hv.small
  have hsc := hx.small
  clear hu hv hx bC
  rcases (show 50 < l.length ∨ (l.length ≤ 50 ∧ 50 < k.length) ∨ (l.length ≤ 50 ∧ k.length ≤ 50 ∧ 50 < m.length) ∨ (l.length ≤ 50 ∧ k.length ≤ 50 ∧ m.length ≤ 50) by omega) with g1 | ⟨g1, g2⟩ | ⟨g1, g2, g3⟩ | ⟨g1, g2, g3⟩
  · have d0 : decide ((50 : Int) < (l.length : Int)) = true := decide_eq_true (by omega)
    clear uA uB uC hsa hsb hsc
    go_enter Try.func12, Try.ntmps12
    go_wp2_with fail
    refine (alive5 _).mono ?_
    rintro e w1 ⟨rfl, hb⟩
    replace a0 := keepC hb a0
    replace a1 := keepC hb a1
    replace b0 := keepC hb b0
    replace b1 := keepC hb b1
    replace e0 := keepC hb e0
    replace e1 := keepC hb e1
    replace hB := from_ hB hb
    clear hb
    go_wp2
    go_ret
    exact ⟨rfl, hB⟩
  · have d0 : decide ((50 : Int) < (l.length : Int)) = false := decide_eq_false (by omega)
    have d1 : decide ((50 : Int) < (k.length : Int)) = true := decide_eq_true (by omega)
    clear uA uB uC hsa hsb hsc
    go_enter Try.func12, Try.ntmps12
    go_wp2_with fail
    refine (alive5 _).mono ?_
    rintro e w1 ⟨rfl, hb⟩
    replace a0 := keepC hb a0
    replace a1 := keepC hb a1
    replace b0 := keepC hb b0
    replace b1 := keepC hb b1
    replace e0 := keepC hb e0
    replace e1 := keepC hb e1
    replace hB := from_ hB hb
    clear hb
    go_wp2
    go_ret
    exact ⟨rfl, hB⟩
  · have d0 : decide ((50 : Int) < (l.length : Int)) = false := decide_eq_false (by omega)
    have d1 : decide ((50 : Int) < (k.length : Int)) = false := decide_eq_false (by omega)
    have d2 : decide ((50 : Int) < (m.length : Int)) = true := decide_eq_true (by omega)
    clear uA uB uC hsa hsb hsc
    go_enter Try.func12, Try.ntmps12
    go_wp2_with fail
    refine (alive5 _).mono ?_
    rintro e w1 ⟨rfl, hb⟩
    replace a0 := keepC hb a0
    replace a1 := keepC hb a1
    replace b0 := keepC hb b0
    replace b1 := keepC hb b1
    replace e0 := keepC hb e0
    replace e1 := keepC hb e1
    replace hB := from_ hB hb
    clear hb
    go_wp2
    go_ret
    exact ⟨rfl, hB⟩
  · have d0 : decide ((50 : Int) < (l.length : Int)) = false := decide_eq_false (by omega)
    have d1 : decide ((50 : Int) < (k.length : Int)) = false := decide_eq_false (by omega)
    have d2 : decide ((50 : Int) < (m.length : Int)) = false := decide_eq_false (by omega)
    by_cases hok : okI s l = true ∧ okI t k = true
    · obtain ⟨o1, o2⟩ := hok
      have na := Nm.ok o1 hsa
      have nb := Nm.ok o2 hsb
      cases o3 : okI r m with
      | false =>
        generalize zof s l = x at *
        generalize zof t k = y at *
        obtain ⟨sd, ld, nd⟩ : ∃ s l, Nm (x - y) s l := ⟨_, _, Nm.mk' _⟩
        obtain ⟨n, hn⟩ : ∃ n, sgn (x - y) = n := ⟨_, rfl⟩
        have b_a : l.length ≤ 90000 := by omega
        have b_b : k.length ≤ 90000 := by omega
        have Na := Lib.hid na
        have Nb := Lib.hid nb
        have Nd := Lib.hid nd
        have O3 := Lib.hid o3
        have E1 := Lib.hid hn
        clear o1 o2 o3 hsa hsb hsc na nb nd hn
        go_enter Try.func12, Try.ntmps12
        go_wp2_with fail
        refine (alive5 _).mono ?_
        rintro e w1 ⟨rfl, hb⟩
        replace a0 := keepC hb a0
        replace a1 := keepC hb a1
        replace b0 := keepC hb b0
        replace b1 := keepC hb b1
        replace e0 := keepC hb e0
        replace e1 := keepC hb e1
        replace uA := uA.below hb
        replace uB := uB.below hb
        replace uC := uC.below hb
        replace hB := from_ hB hb
        clear hb
        go_wp2_with fail
        refine (cmp_n (g := n) Na.out Nb.out E1.out b_a b_b uA uB).mono ?_
        rintro e w2 ⟨rfl, hb⟩
        replace a0 := keepC hb a0
        replace a1 := keepC hb a1
        replace b0 := keepC hb b0
        replace b1 := keepC hb b1
        replace e0 := keepC hb e0
        replace e1 := keepC hb e1
        replace uA := uA.below hb
        replace uB := uB.below hb
        replace uC := uC.below hb
        replace hB := from_ hB hb
        clear hb
        go_wp2_with fail
        refine (wsub_n Na.out Nb.out Nd.out rfl b_a b_b uA uB).mono ?_
        rintro e w3 ⟨A3, c3, rfl, uD, hb⟩
        have hal : Below w3.heap.size w3 (w3.alloc (.cells #[.bool sd, .slice A3 ld.length c3] 52)) := (Below.refl _ _).alloc (Nat.le_refl _) _
        replace uD := uD.below hal
        obtain ⟨xD, yD, _, _, _⟩ := Box.new w3 (.bool sd) (.slice A3 ld.length c3) 52
        have hs := from_ hb hal
        replace a0 := keepC hs a0
        replace a1 := keepC hs a1
        replace b0 := keepC hs b0
        replace b1 := keepC hs b1
        replace e0 := keepC hs e0
        replace e1 := keepC hs e1
        replace uA := uA.below hs
        replace uB := uB.below hs
        replace uC := uC.below hs
        replace hB := from_ hB hs
        clear hb hal hs
        go_wp2_with fail
        refine (osign_bad O3.out uC).mono ?_
        rintro e w4 ⟨rfl, hb⟩
        replace a0 := keepC hb a0
        replace a1 := keepC hb a1
        replace b0 := keepC hb b0
        replace b1 := keepC hb b1
        replace e0 := keepC hb e0
        replace e1 := keepC hb e1
        replace xD := keepC hb xD
        replace yD := keepC hb yD
        replace uA := uA.below hb
        replace uB := uB.below hb
        replace uC := uC.below hb
        replace uD := uD.below hb
        replace hB := from_ hB hb
        clear hb
        go_wp2
        go_ret
        exact ⟨rfl, hB⟩
      | true =>
        have nc := Nm.ok o3 hsc
        generalize zof s l = x at *
        generalize zof t k = y at *
        generalize zof r m = z at *
        have la := na.len
        have lb := nb.len
        have lc := nc.len
        clear o1 o2 o3 hsa hsb hsc
        have q2 := lz_add x z
        have q3 := lz_add y z
        have q4 := lz_mul x z
        have q5 := lz_mul y z
        obtain ⟨sd, ld, nd⟩ : ∃ s l, Nm (x - y) s l := ⟨_, _, Nm.mk' _⟩
        have kd := nd.len
        obtain ⟨sxx, lxx, nxx⟩ : ∃ s l, Nm (x + z) s l := ⟨_, _, Nm.mk' _⟩
        have kxx := nxx.len
        obtain ⟨syy, lyy, nyy⟩ : ∃ s l, Nm (y + z) s l := ⟨_, _, Nm.mk' _⟩
        have kyy := nyy.len
        obtain ⟨su, lu, nu⟩ : ∃ s l, Nm (x * z) s l := ⟨_, _, Nm.mk' _⟩
        have ku := nu.len
        obtain ⟨sv, lv, nv⟩ : ∃ s l, Nm (y * z) s l := ⟨_, _, Nm.mk' _⟩
        have kv := nv.len
        have b_a : l.length ≤ 90000 := by omega
        have b_b : k.length ≤ 90000 := by omega
        have b_c : m.length ≤ 90000 := by omega
        have b_xx : lxx.length ≤ 90000 := by omega
        have b_yy : lyy.length ≤ 90000 := by omega
        have b_u : lu.length ≤ 90000 := by omega
        have b_v : lv.length ≤ 90000 := by omega
        have Na := Lib.hid na
        have Nb := Lib.hid nb
        have Nc := Lib.hid nc
        have Nd := Lib.hid nd
        have Nxx := Lib.hid nxx
        have Nyy := Lib.hid nyy
        have Nu := Lib.hid nu
        have Nv := Lib.hid nv
        have f3 := sgn_turn x y
        have f4 : sgn (x + z - (y + z)) = sgn (x - y) := by rw [show x + z - (y + z) = x - y by omega]
        have f5 := sgn_times x y z
        have f6 : decide (s = t ∧ l = k) = decide (sgn (x - y) = 0) := by
          refine decide_eq_decide.2 ⟨fun h => ?_, fun h => ?_⟩
          · rw [sgn_nought]
            have h1 := na
            rw [h.1, h.2] at h1
            have h2 := nm_one h1 nb
            omega
          · rw [sgn_nought] at h
            have h2 : x = y := by omega
            rw [na.1, na.2, nb.1, nb.2, h2]
            exact ⟨rfl, rfl⟩
        clear na nb nc nd nxx nyy nu nv kd kxx kyy ku kv la lb lc q2 q3 q4 q5
        rcases sgn_three (x - y) with h1 | h1 | h1 <;> rcases sgn_three z with h2 | h2 | h2 <;> (rw [h1] at f3 f4 f5 f6; rw [h2] at f5; (first | skip); have E1 := Lib.hid h1; have E2 := Lib.hid h2; have E3 := Lib.hid f3; have E4 := Lib.hid f4; have E5 := Lib.hid f5; have E6 := Lib.hid f6; clear h1 h2 f3 f4 f5 f6)
        · go_enter Try.func12, Try.ntmps12
          go_wp2_with fail
          refine (alive5 _).mono ?_
          rintro e w1 ⟨rfl, hb⟩
          replace a0 := keepC hb a0
          replace a1 := keepC hb a1
          replace b0 := keepC hb b0
          replace b1 := keepC hb b1
          replace e0 := keepC hb e0
          replace e1 := keepC hb e1
          replace uA := uA.below hb
          replace uB := uB.below hb
          replace uC := uC.below hb
          replace hB := from_ hB hb
          clear hb
          go_wp2_with fail
          refine (cmp_n (g := -1) Na.out Nb.out E1.out b_a b_b uA uB).mono ?_
          rintro e w2 ⟨rfl, hb⟩
          replace a0 := keepC hb a0
          replace a1 := keepC hb a1
          replace b0 := keepC hb b0
          replace b1 := keepC hb b1
          replace e0 := keepC hb e0
          replace e1 := keepC hb e1
          replace uA := uA.below hb
          replace uB := uB.below hb
          replace uC := uC.below hb
          replace hB := from_ hB hb
          clear hb
          go_wp2_with fail
          refine (wsub_n Na.out Nb.out Nd.out rfl b_a b_b uA uB).mono ?_
          rintro e w3 ⟨A3, c3, rfl, uD, hb⟩
          have hal : Below w3.heap.size w3 (w3.alloc (.cells #[.bool sd, .slice A3 ld.length c3] 52)) := (Below.refl _ _).alloc (Nat.le_refl _) _
          replace uD := uD.below hal
          obtain ⟨xD, yD, _, _, _⟩ := Box.new w3 (.bool sd) (.slice A3 ld.length c3) 52
          have hs := from_ hb hal
          replace a0 := keepC hs a0
          replace a1 := keepC hs a1
          replace b0 := keepC hs b0
          replace b1 := keepC hs b1
          replace e0 := keepC hs e0
          replace e1 := keepC hs e1
          replace uA := uA.below hs
          replace uB := uB.below hs
          replace uC := uC.below hs
          replace hB := from_ hB hs
          clear hb hal hs
          go_wp2_with fail
          refine (sign_n (g := -1) Nc.out E2.out uC).mono ?_
          rintro e w4 ⟨rfl, hb⟩
          replace a0 := keepC hb a0
          replace a1 := keepC hb a1
          replace b0 := keepC hb b0
          replace b1 := keepC hb b1
          replace e0 := keepC hb e0
          replace e1 := keepC hb e1
          replace xD := keepC hb xD
          replace yD := keepC hb yD
          replace uA := uA.below hb
          replace uB := uB.below hb
          replace uC := uC.below hb
          replace uD := uD.below hb
          replace hB := from_ hB hb
          clear hb
          go_wp2_with fail
          refine (sign_n (g := -1) Nd.out E1.out uD).mono ?_
          rintro e w5 ⟨rfl, hb⟩
          replace a0 := keepC hb a0
          replace a1 := keepC hb a1
          replace b0 := keepC hb b0
          replace b1 := keepC hb b1
          replace e0 := keepC hb e0
          replace e1 := keepC hb e1
          replace xD := keepC hb xD
          replace yD := keepC hb yD
          replace uA := uA.below hb
          replace uB := uB.below hb
          replace uC := uC.below hb
          replace uD := uD.below hb
          replace hB := from_ hB hb
          clear hb
          go_wp2_with fail
          refine (cmp_n (g := 1) Nb.out Na.out E3.out b_b b_a uB uA).mono ?_
          rintro e w6 ⟨rfl, hb⟩
          replace a0 := keepC hb a0
          replace a1 := keepC hb a1
          replace b0 := keepC hb b0
          replace b1 := keepC hb b1
          replace e0 := keepC hb e0
          replace e1 := keepC hb e1
          replace xD := keepC hb xD
          replace yD := keepC hb yD
          replace uA := uA.below hb
          replace uB := uB.below hb
          replace uC := uC.below hb
          replace uD := uD.below hb
          replace hB := from_ hB hb
          clear hb
          go_wp2_with fail
          refine (wadd_n Na.out Nc.out Nxx.out rfl b_a b_c uA uC).mono ?_
          rintro e w7 ⟨A7, c7, rfl, uX, hb⟩
          have hal : Below w7.heap.size w7 (w7.alloc (.cells #[.bool sxx, .slice A7 lxx.length c7] 52)) := (Below.refl _ _).alloc (Nat.le_refl _) _
          replace uX := uX.below hal
          obtain ⟨xX, yX, _, _, _⟩ := Box.new w7 (.bool sxx) (.slice A7 lxx.length c7) 52
          have hs := from_ hb hal
          replace a0 := keepC hs a0
          replace a1 := keepC hs a1
          replace b0 := keepC hs b0
          replace b1 := keepC hs b1
          replace e0 := keepC hs e0
          replace e1 := keepC hs e1
          replace xD := keepC hs xD
          replace yD := keepC hs yD
          replace uA := uA.below hs
          replace uB := uB.below hs
          replace uC := uC.below hs
          replace uD := uD.below hs
          replace hB := from_ hB hs
          clear hb hal hs
          go_wp2_with fail
          refine (wadd_n Nb.out Nc.out Nyy.out rfl b_b b_c uB uC).mono ?_
          rintro e w8 ⟨A8, c8, rfl, uY, hb⟩
          have hal : Below w8.heap.size w8 (w8.alloc (.cells #[.bool syy, .slice A8 lyy.length c8] 52)) := (Below.refl _ _).alloc (Nat.le_refl _) _
          replace uY := uY.below hal
          obtain ⟨xY, yY, _, _, _⟩ := Box.new w8 (.bool syy) (.slice A8 lyy.length c8) 52
          have hs := from_ hb hal
          replace a0 := keepC hs a0
          replace a1 := keepC hs a1
          replace b0 := keepC hs b0
          replace b1 := keepC hs b1
          replace e0 := keepC hs e0
          replace e1 := keepC hs e1
          replace xD := keepC hs xD
          replace yD := keepC hs yD
          replace xX := keepC hs xX
          replace yX := keepC hs yX
          replace uA := uA.below hs
          replace uB := uB.below hs
          replace uC := uC.below hs
          replace uD := uD.below hs
          replace uX := uX.below hs
          replace hB := from_ hB hs
          clear hb hal hs
          go_wp2_with fail
          refine (cmp_n (g := -1) Nxx.out Nyy.out E4.out b_xx b_yy uX uY).mono ?_
          rintro e w9 ⟨rfl, hb⟩
          replace a0 := keepC hb a0
          replace a1 := keepC hb a1
          replace b0 := keepC hb b0
          replace b1 := keepC hb b1
          replace e0 := keepC hb e0
          replace e1 := keepC hb e1
          replace xD := keepC hb xD
          replace yD := keepC hb yD
          replace xX := keepC hb xX
          replace yX := keepC hb yX
          replace xY := keepC hb xY
          replace yY := keepC hb yY
          replace uA := uA.below hb
          replace uB := uB.below hb
          replace uC := uC.below hb
          replace uD := uD.below hb
          replace uX := uX.below hb
          replace uY := uY.below hb
          replace hB := from_ hB hb
          clear hb
          clear xD yD uD
          clear xX yX uX
          clear xY yY uY
          go_wp2_with fail
          refine (wmul_n Na.out Nc.out Nu.out rfl b_a b_c uA uC).mono ?_
          rintro e w10 ⟨A10, c10, rfl, uU, hb⟩
          have hal : Below w10.heap.size w10 (w10.alloc (.cells #[.bool su, .slice A10 lu.length c10] 52)) := (Below.refl _ _).alloc (Nat.le_refl _) _
          replace uU := uU.below hal
          obtain ⟨xU, yU, _, _, _⟩ := Box.new w10 (.bool su) (.slice A10 lu.length c10) 52
          have hs := from_ hb hal
          replace a0 := keepC hs a0
          replace a1 := keepC hs a1
          replace b0 := keepC hs b0
          replace b1 := keepC hs b1
          replace e0 := keepC hs e0
          replace e1 := keepC hs e1
          replace uA := uA.below hs
          replace uB := uB.below hs
          replace uC := uC.below hs
          replace hB := from_ hB hs
          clear hb hal hs
          go_wp2_with fail
          refine (wmul_n Nb.out Nc.out Nv.out rfl b_b b_c uB uC).mono ?_
          rintro e w11 ⟨A11, c11, rfl, uV, hb⟩
          have hal : Below w11.heap.size w11 (w11.alloc (.cells #[.bool sv, .slice A11 lv.length c11] 52)) := (Below.refl _ _).alloc (Nat.le_refl _) _
          replace uV := uV.below hal
          obtain ⟨xV, yV, _, _, _⟩ := Box.new w11 (.bool sv) (.slice A11 lv.length c11) 52
          have hs := from_ hb hal
          replace a0 := keepC hs a0
          replace a1 := keepC hs a1
          replace b0 := keepC hs b0
          replace b1 := keepC hs b1
          replace e0 := keepC hs e0
          replace e1 := keepC hs e1
          replace xU := keepC hs xU
          replace yU := keepC hs yU
          replace uA := uA.below hs
          replace uB := uB.below hs
          replace uC := uC.below hs
          replace uU := uU.below hs
          replace hB := from_ hB hs
          clear hb hal hs
          go_wp2_with fail
          refine (cmp_n (g := 1) Nu.out Nv.out (E5.out.trans rfl) b_u b_v uU uV).mono ?_
          rintro e w12 ⟨rfl, hb⟩
          replace a0 := keepC hb a0
          replace a1 := keepC hb a1
          replace b0 := keepC hb b0
          replace b1 := keepC hb b1
          replace e0 := keepC hb e0
          replace e1 := keepC hb e1
          replace xU := keepC hb xU
          replace yU := keepC hb yU
          replace xV := keepC hb xV
          replace yV := keepC hb yV
          replace uA := uA.below hb
          replace uB := uB.below hb
          replace uC := uC.below hb
          replace uU := uU.below hb
          replace uV := uV.below hb
          replace hB := from_ hB hb
          clear hb
          go_wp2_with fail
          refine (same_q (q := false) E6.out uA uB).mono ?_
          rintro e w13 ⟨rfl, hb⟩
          replace a0 := keepC hb a0
          replace a1 := keepC hb a1
          replace b0 := keepC hb b0
          replace b1 := keepC hb b1
          replace e0 := keepC hb e0
          replace e1 := keepC hb e1
          replace xU := keepC hb xU
          replace yU := keepC hb yU
          replace xV := keepC hb xV
          replace yV := keepC hb yV
          replace uA := uA.below hb
          replace uB := uB.below hb
          replace uC := uC.below hb
          replace uU := uU.below hb
          replace uV := uV.below hb
          replace hB := from_ hB hb
          clear hb
          go_wp2
          go_ret
          exact ⟨rfl, hB⟩
        · go_enter Try.func12, Try.ntmps12
          go_wp2_with fail
          refine (alive5 _).mono ?_
          rintro e w1 ⟨rfl, hb⟩
          replace a0 := keepC hb a0
          replace a1 := keepC hb a1
          replace b0 := keepC hb b0
          replace b1 := keepC hb b1
          replace e0 := keepC hb e0
          replace e1 := keepC hb e1
          replace uA := uA.below hb
          replace uB := uB.below hb
          replace uC := uC.below hb
          replace hB := from_ hB hb
          clear hb
          go_wp2_with fail
          refine (cmp_n (g := -1) Na.out Nb.out E1.out b_a b_b uA uB).mono ?_
          rintro e w2 ⟨rfl, hb⟩
          replace a0 := keepC hb a0
          replace a1 := keepC hb a1
          replace b0 := keepC hb b0
          replace b1 := keepC hb b1
          replace e0 := keepC hb e0
          replace e1 := keepC hb e1
          replace uA := uA.below hb
          replace uB := uB.below hb
          replace uC := uC.below hb
          replace hB := from_ hB hb
          clear hb
          go_wp2_with fail
          refine (wsub_n Na.out Nb.out Nd.out rfl b_a b_b uA uB).mono ?_
          rintro e w3 ⟨A3, c3, rfl, uD, hb⟩
          have hal : Below w3.heap.size w3 (w3.alloc (.cells #[.bool sd, .slice A3 ld.length c3] 52)) := (Below.refl _ _).alloc (Nat.le_refl _) _
          replace uD := uD.below hal
          obtain ⟨xD, yD, _, _, _⟩ := Box.new w3 (.bool sd) (.slice A3 ld.length c3) 52
          have hs := from_ hb hal
          replace a0 := keepC hs a0
          replace a1 := keepC hs a1
          replace b0 := keepC hs b0
          replace b1 := keepC hs b1
          replace e0 := keepC hs e0
          replace e1 := keepC hs e1
          replace uA := uA.below hs
          replace uB := uB.below hs
          replace uC := uC.below hs
          replace hB := from_ hB hs
          clear hb hal hs
          go_wp2_with fail
          refine (sign_n (g := 0) Nc.out E2.out uC).mono ?_
          rintro e w4 ⟨rfl, hb⟩
          replace a0 := keepC hb a0
          replace a1 := keepC hb a1
          replace b0 := keepC hb b0
          replace b1 := keepC hb b1
          replace e0 := keepC hb e0
          replace e1 := keepC hb e1
          replace xD := keepC hb xD
          replace yD := keepC hb yD
          replace uA := uA.below hb
          replace uB := uB.below hb
          replace uC := uC.below hb
          replace uD := uD.below hb
          replace hB := from_ hB hb
          clear hb
          go_wp2_with fail
          refine (sign_n (g := -1) Nd.out E1.out uD).mono ?_
          rintro e w5 ⟨rfl, hb⟩
          replace a0 := keepC hb a0
          replace a1 := keepC hb a1
          replace b0 := keepC hb b0
          replace b1 := keepC hb b1
          replace e0 := keepC hb e0
          replace e1 := keepC hb e1
          replace xD := keepC hb xD
          replace yD := keepC hb yD
          replace uA := uA.below hb
          replace uB := uB.below hb
          replace uC := uC.below hb
          replace uD := uD.below hb
          replace hB := from_ hB hb
          clear hb
          go_wp2_with fail
          refine (cmp_n (g := 1) Nb.out Na.out E3.out b_b b_a uB uA).mono ?_
          rintro e w6 ⟨rfl, hb⟩
          replace a0 := keepC hb a0
          replace a1 := keepC hb a1
          replace b0 := keepC hb b0
          replace b1 := keepC hb b1
          replace e0 := keepC hb e0
          replace e1 := keepC hb e1
          replace xD := keepC hb xD
          replace yD := keepC hb yD
          replace uA := uA.below hb
          replace uB := uB.below hb
          replace uC := uC.below hb
          replace uD := uD.below hb
          replace hB := from_ hB hb
          clear hb
          go_wp2_with fail
          refine (wadd_n Na.out Nc.out Nxx.out rfl b_a b_c uA uC).mono ?_
          rintro e w7 ⟨A7, c7, rfl, uX, hb⟩
          have hal : Below w7.heap.size w7 (w7.alloc (.cells #[.bool sxx, .slice A7 lxx.length c7] 52)) := (Below.refl _ _).alloc (Nat.le_refl _) _
          replace uX := uX.below hal
          obtain ⟨xX, yX, _, _, _⟩ := Box.new w7 (.bool sxx) (.slice A7 lxx.length c7) 52
          have hs := from_ hb hal
          replace a0 := keepC hs a0
          replace a1 := keepC hs a1
          replace b0 := keepC hs b0
          replace b1 := keepC hs b1
          replace e0 := keepC hs e0
          replace e1 := keepC hs e1
          replace xD := keepC hs xD
          replace yD := keepC hs yD
          replace uA := uA.below hs
          replace uB := uB.below hs
          replace uC := uC.below hs
          replace uD := uD.below hs
          replace hB := from_ hB hs
          clear hb hal hs
          go_wp2_with fail
          refine (wadd_n Nb.out Nc.out Nyy.out rfl b_b b_c uB uC).mono ?_
          rintro e w8 ⟨A8, c8, rfl, uY, hb⟩
          have hal : Below w8.heap.size w8 (w8.alloc (.cells #[.bool syy, .slice A8 lyy.length c8] 52)) := (Below.refl _ _).alloc (Nat.le_refl _) _
          replace uY := uY.below hal
          obtain ⟨xY, yY, _, _, _⟩ := Box.new w8 (.bool syy) (.slice A8 lyy.length c8) 52
          have hs := from_ hb hal
          replace a0 := keepC hs a0
          replace a1 := keepC hs a1
          replace b0 := keepC hs b0
          replace b1 := keepC hs b1
          replace e0 := keepC hs e0
          replace e1 := keepC hs e1
          replace xD := keepC hs xD
          replace yD := keepC hs yD
          replace xX := keepC hs xX
          replace yX := keepC hs yX
          replace uA := uA.below hs
          replace uB := uB.below hs
          replace uC := uC.below hs
          replace uD := uD.below hs
          replace uX := uX.below hs
          replace hB := from_ hB hs
          clear hb hal hs
          go_wp2_with fail
          refine (cmp_n (g := -1) Nxx.out Nyy.out E4.out b_xx b_yy uX uY).mono ?_
          rintro e w9 ⟨rfl, hb⟩
          replace a0 := keepC hb a0
          replace a1 := keepC hb a1
          replace b0 := keepC hb b0
          replace b1 := keepC hb b1
          replace e0 := keepC hb e0
          replace e1 := keepC hb e1
          replace xD := keepC hb xD
          replace yD := keepC hb yD
          replace xX := keepC hb xX
          replace yX := keepC hb yX
          replace xY := keepC hb xY
          replace yY := keepC hb yY
          replace uA := uA.below hb
          replace uB := uB.below hb
          replace uC := uC.below hb
          replace uD := uD.below hb
          replace uX := uX.below hb
          replace uY := uY.below hb
          replace hB := from_ hB hb
          clear hb
          clear xD yD uD
          clear xX yX uX
          clear xY yY uY
          go_wp2_with fail
          refine (wmul_n Na.out Nc.out Nu.out rfl b_a b_c uA uC).mono ?_
          rintro e w10 ⟨A10, c10, rfl, uU, hb⟩
          have hal : Below w10.heap.size w10 (w10.alloc (.cells #[.bool su, .slice A10 lu.length c10] 52)) := (Below.refl _ _).alloc (Nat.le_refl _) _
          replace uU := uU.below hal
          obtain ⟨xU, yU, _, _, _⟩ := Box.new w10 (.bool su) (.slice A10 lu.length c10) 52
          have hs := from_ hb hal
          replace a0 := keepC hs a0
          replace a1 := keepC hs a1
          replace b0 := keepC hs b0
          replace b1 := keepC hs b1
          replace e0 := keepC hs e0
          replace e1 := keepC hs e1
          replace uA := uA.below hs
          replace uB := uB.below hs
          replace uC := uC.below hs
          replace hB := from_ hB hs
          clear hb hal hs
          go_wp2_with fail
          refine (wmul_n Nb.out Nc.out Nv.out rfl b_b b_c uB uC).mono ?_
          rintro e w11 ⟨A11, c11, rfl, uV, hb⟩
          have hal : Below w11.heap.size w11 (w11.alloc (.cells #[.bool sv, .slice A11 lv.length c11] 52)) := (Below.refl _ _).alloc (Nat.le_refl _) _
          replace uV := uV.below hal
          obtain ⟨xV, yV, _, _, _⟩ := Box.new w11 (.bool sv) (.slice A11 lv.length c11) 52
          have hs := from_ hb hal
          replace a0 := keepC hs a0
          replace a1 := keepC hs a1
          replace b0 := keepC hs b0
          replace b1 := keepC hs b1
          replace e0 := keepC hs e0
          replace e1 := keepC hs e1
          replace xU := keepC hs xU
          replace yU := keepC hs yU
          replace uA := uA.below hs
          replace uB := uB.below hs
          replace uC := uC.below hs
          replace uU := uU.below hs
          replace hB := from_ hB hs
          clear hb hal hs
          go_wp2_with fail
          refine (cmp_n (g := 0) Nu.out Nv.out (E5.out.trans rfl) b_u b_v uU uV).mono ?_
          rintro e w12 ⟨rfl, hb⟩
          replace a0 := keepC hb a0
          replace a1 := keepC hb a1
          replace b0 := keepC hb b0
          replace b1 := keepC hb b1
          replace e0 := keepC hb e0
          replace e1 := keepC hb e1
          replace xU := keepC hb xU
          replace yU := keepC hb yU
          replace xV := keepC hb xV
          replace yV := keepC hb yV
          replace uA := uA.below hb
          replace uB := uB.below hb
          replace uC := uC.below hb
          replace uU := uU.below hb
          replace uV := uV.below hb
          replace hB := from_ hB hb
          clear hb
          go_wp2_with fail
          refine (same_q (q := false) E6.out uA uB).mono ?_
          rintro e w13 ⟨rfl, hb⟩
          replace a0 := keepC hb a0
          replace a1 := keepC hb a1
          replace b0 := keepC hb b0
          replace b1 := keepC hb b1
          replace e0 := keepC hb e0
          replace e1 := keepC hb e1
          replace xU := keepC hb xU
          replace yU := keepC hb yU
          replace xV := keepC hb xV
          replace yV := keepC hb yV
          replace uA := uA.below hb
          replace uB := uB.below hb
          replace uC := uC.below hb
          replace uU := uU.below hb
          replace uV := uV.below hb
          replace hB := from_ hB hb
          clear hb
          go_wp2
          go_ret
          exact ⟨rfl, hB⟩
        · go_enter Try.func12, Try.ntmps12
          go_wp2_with fail
          refine (alive5 _).mono ?_
          rintro e w1 ⟨rfl, hb⟩
          replace a0 := keepC hb a0
          replace a1 := keepC hb a1
          replace b0 := keepC hb b0
          replace b1 := keepC hb b1
          replace e0 := keepC hb e0
          replace e1 := keepC hb e1
          replace uA := uA.below hb
          replace uB := uB.below hb
          replace uC := uC.below hb
          replace hB := from_ hB hb
          clear hb
          go_wp2_with fail
          refine (cmp_n (g := -1) Na.out Nb.out E1.out b_a b_b uA uB).mono ?_
          rintro e w2 ⟨rfl, hb⟩
          replace a0 := keepC hb a0
          replace a1 := keepC hb a1
          replace b0 := keepC hb b0
          replace b1 := keepC hb b1
          replace e0 := keepC hb e0
          replace e1 := keepC hb e1
          replace uA := uA.below hb
          replace uB := uB.below hb
          replace uC := uC.below hb
          replace hB := from_ hB hb
          clear hb
          go_wp2_with fail
          refine (wsub_n Na.out Nb.out Nd.out rfl b_a b_b uA uB).mono ?_
          rintro e w3 ⟨A3, c3, rfl, uD, hb⟩
          have hal : Below w3.heap.size w3 (w3.alloc (.cells #[.bool sd, .slice A3 ld.length c3] 52)) := (Below.refl _ _).alloc (Nat.le_refl _) _
          replace uD := uD.below hal
          obtain ⟨xD, yD, _, _, _⟩ := Box.new w3 (.bool sd) (.slice A3 ld.length c3) 52
          have hs := from_ hb hal
          replace a0 := keepC hs a0
          replace a1 := keepC hs a1
          replace b0 := keepC hs b0
          replace b1 := keepC hs b1
          replace e0 := keepC hs e0
          replace e1 := keepC hs e1
          replace uA := uA.below hs
          replace uB := uB.below hs
          replace uC := uC.below hs
          replace hB := from_ hB hs
          clear hb hal hs
          go_wp2_with fail
          refine (sign_n (g := 1) Nc.out E2.out uC).mono ?_
          rintro e w4 ⟨rfl, hb⟩
          replace a0 := keepC hb a0
          replace a1 := keepC hb a1
          replace b0 := keepC hb b0
          replace b1 := keepC hb b1
          replace e0 := keepC hb e0
          replace e1 := keepC hb e1
          replace xD := keepC hb xD
          replace yD := keepC hb yD
          replace uA := uA.below hb
          replace uB := uB.below hb
          replace uC := uC.below hb
          replace uD := uD.below hb
          replace hB := from_ hB hb
          clear hb
          go_wp2_with fail
          refine (sign_n (g := -1) Nd.out E1.out uD).mono ?_
          rintro e w5 ⟨rfl, hb⟩
          replace a0 := keepC hb a0
          replace a1 := keepC hb a1
          replace b0 := keepC hb b0
          replace b1 := keepC hb b1
          replace e0 := keepC hb e0
          replace e1 := keepC hb e1
          replace xD := keepC hb xD
          replace yD := keepC hb yD
          replace uA := uA.below hb
          replace uB := uB.below hb
          replace uC := uC.below hb
          replace uD := uD.below hb
          replace hB := from_ hB hb
          clear hb
          go_wp2_with fail
          refine (cmp_n (g := 1) Nb.out Na.out E3.out b_b b_a uB uA).mono ?_
          rintro e w6 ⟨rfl, hb⟩
          replace a0 := keepC hb a0
          replace a1 := keepC hb a1
          replace b0 := keepC hb b0
          replace b1 := keepC hb b1
          replace e0 := keepC hb e0
          replace e1 := keepC hb e1
          replace xD := keepC hb xD
          replace yD := keepC hb yD
          replace uA := uA.below hb
          replace uB := uB.below hb
          replace uC := uC.below hb
          replace uD := uD.below hb
          replace hB := from_ hB hb
          clear hb
          go_wp2_with fail
          refine (wadd_n Na.out Nc.out Nxx.out rfl b_a b_c uA uC).mono ?_
          rintro e w7 ⟨A7, c7, rfl, uX, hb⟩
          have hal : Below w7.heap.size w7 (w7.alloc (.cells #[.bool sxx, .slice A7 lxx.length c7] 52)) := (Below.refl _ _).alloc (Nat.le_refl _) _
          replace uX := uX.below hal
          obtain ⟨xX, yX, _, _, _⟩ := Box.new w7 (.bool sxx) (.slice A7 lxx.length c7) 52
          have hs := from_ hb hal
          replace a0 := keepC hs a0
          replace a1 := keepC hs a1
          replace b0 := keepC hs b0
          replace b1 := keepC hs b1
          replace e0 := keepC hs e0
          replace e1 := keepC hs e1
          replace xD := keepC hs xD
          replace yD := keepC hs yD
          replace uA := uA.below hs
          replace uB := uB.below hs
          replace uC := uC.below hs
          replace uD := uD.below hs
          replace hB := from_ hB hs
          clear hb hal hs
          go_wp2_with fail
          refine (wadd_n Nb.out Nc.out Nyy.out rfl b_b b_c uB uC).mono ?_
          rintro e w8 ⟨A8, c8, rfl, uY, hb⟩
          have hal : Below w8.heap.size w8 (w8.alloc (.cells #[.bool syy, .slice A8 lyy.length c8] 52)) := (Below.refl _ _).alloc (Nat.le_refl _) _
          replace uY := uY.below hal
          obtain ⟨xY, yY, _, _, _⟩ := Box.new w8 (.bool syy) (.slice A8 lyy.length c8) 52
          have hs := from_ hb hal
          replace a0 := keepC hs a0
          replace a1 := keepC hs a1
          replace b0 := keepC hs b0
          replace b1 := keepC hs b1
          replace e0 := keepC hs e0
          replace e1 := keepC hs e1
          replace xD := keepC hs xD
          replace yD := keepC hs yD
          replace xX := keepC hs xX
          replace yX := keepC hs yX
          replace uA := uA.below hs
          replace uB := uB.below hs
          replace uC := uC.below hs
          replace uD := uD.below hs
          replace uX := uX.below hs
          replace hB := from_ hB hs
          clear hb hal hs
          go_wp2_with fail
          refine (cmp_n (g := -1) Nxx.out Nyy.out E4.out b_xx b_yy uX uY).mono ?_
          rintro e w9 ⟨rfl, hb⟩
          replace a0 := keepC hb a0
          replace a1 := keepC hb a1
          replace b0 := keepC hb b0
          replace b1 := keepC hb b1
          replace e0 := keepC hb e0
          replace e1 := keepC hb e1
          replace xD := keepC hb xD
          replace yD := keepC hb yD
          replace xX := keepC hb xX
          replace yX := keepC hb yX
          replace xY := keepC hb xY
          replace yY := keepC hb yY
          replace uA := uA.below hb
          replace uB := uB.below hb
          replace uC := uC.below hb
          replace uD := uD.below hb
          replace uX := uX.below hb
          replace uY := uY.below hb
          replace hB := from_ hB hb
          clear hb
          clear xD yD uD
          clear xX yX uX
          clear xY yY uY
          go_wp2_with fail
          refine (wmul_n Na.out Nc.out Nu.out rfl b_a b_c uA uC).mono ?_
          rintro e w10 ⟨A10, c10, rfl, uU, hb⟩
          have hal : Below w10.heap.size w10 (w10.alloc (.cells #[.bool su, .slice A10 lu.length c10] 52)) := (Below.refl _ _).alloc (Nat.le_refl _) _
          replace uU := uU.below hal
          obtain ⟨xU, yU, _, _, _⟩ := Box.new w10 (.bool su) (.slice A10 lu.length c10) 52
          have hs := from_ hb hal
          replace a0 := keepC hs a0
          replace a1 := keepC hs a1
          replace b0 := keepC hs b0
          replace b1 := keepC hs b1
          replace e0 := keepC hs e0
          replace e1 := keepC hs e1
          replace uA := uA.below hs
          replace uB := uB.below hs
          replace uC := uC.below hs
          replace hB := from_ hB hs
          clear hb hal hs
          go_wp2_with fail
          refine (wmul_n Nb.out Nc.out Nv.out rfl b_b b_c uB uC).mono ?_
          rintro e w11 ⟨A11, c11, rfl, uV, hb⟩
          have hal : Below w11.heap.size w11 (w11.alloc (.cells #[.bool sv, .slice A11 lv.length c11] 52)) := (Below.refl _ _).alloc (Nat.le_refl _) _
          replace uV := uV.below hal
          obtain ⟨xV, yV, _, _, _⟩ := Box.new w11 (.bool sv) (.slice A11 lv.length c11) 52
          have hs := from_ hb hal
          replace a0 := keepC hs a0
          replace a1 := keepC hs a1
          replace b0 := keepC hs b0
          replace b1 := keepC hs b1
          replace e0 := keepC hs e0
          replace e1 := keepC hs e1
          replace xU := keepC hs xU
          replace yU := keepC hs yU
          replace uA := uA.below hs
          replace uB := uB.below hs
          replace uC := uC.below hs
          replace uU := uU.below hs
          replace hB := from_ hB hs
          clear hb hal hs
          go_wp2_with fail
          refine (cmp_n (g := -1) Nu.out Nv.out (E5.out.trans rfl) b_u b_v uU uV).mono ?_
          rintro e w12 ⟨rfl, hb⟩
          replace a0 := keepC hb a0
          replace a1 := keepC hb a1
          replace b0 := keepC hb b0
          replace b1 := keepC hb b1
          replace e0 := keepC hb e0
          replace e1 := keepC hb e1
          replace xU := keepC hb xU
          replace yU := keepC hb yU
          replace xV := keepC hb xV
          replace yV := keepC hb yV
          replace uA := uA.below hb
          replace uB := uB.below hb
          replace uC := uC.below hb
          replace uU := uU.below hb
          replace uV := uV.below hb
          replace hB := from_ hB hb
          clear hb
          go_wp2_with fail
          refine (same_q (q := false) E6.out uA uB).mono ?_
          rintro e w13 ⟨rfl, hb⟩
          replace a0 := keepC hb a0
          replace a1 := keepC hb a1
          replace b0 := keepC hb b0
          replace b1 := keepC hb b1
          replace e0 := keepC hb e0
          replace e1 := keepC hb e1
          replace xU := keepC hb xU
          replace yU := keepC hb yU
          replace xV := keepC hb xV
          replace yV := keepC hb yV
          replace uA := uA.below hb
          replace uB := uB.below hb
          replace uC := uC.below hb
          replace uU := uU.below hb
          replace uV := uV.below hb
          replace hB := from_ hB hb
          clear hb
          go_wp2
          go_ret
          exact ⟨rfl, hB⟩
        · go_enter Try.func12, Try.ntmps12
          go_wp2_with fail
          refine (alive5 _).mono ?_
          rintro e w1 ⟨rfl, hb⟩
          replace a0 := keepC hb a0
          replace a1 := keepC hb a1
          replace b0 := keepC hb b0
          replace b1 := keepC hb b1
          replace e0 := keepC hb e0
          replace e1 := keepC hb e1
          replace uA := uA.below hb
          replace uB := uB.below hb
          replace uC := uC.below hb
          replace hB := from_ hB hb
          clear hb
          go_wp2_with fail
          refine (cmp_n (g := 0) Na.out Nb.out E1.out b_a b_b uA uB).mono ?_
          rintro e w2 ⟨rfl, hb⟩
          replace a0 := keepC hb a0
          replace a1 := keepC hb a1
          replace b0 := keepC hb b0
          replace b1 := keepC hb b1
          replace e0 := keepC hb e0
          replace e1 := keepC hb e1
          replace uA := uA.below hb
          replace uB := uB.below hb
          replace uC := uC.below hb
          replace hB := from_ hB hb
          clear hb
          go_wp2_with fail
          refine (wsub_n Na.out Nb.out Nd.out rfl b_a b_b uA uB).mono ?_
          rintro e w3 ⟨A3, c3, rfl, uD, hb⟩
          have hal : Below w3.heap.size w3 (w3.alloc (.cells #[.bool sd, .slice A3 ld.length c3] 52)) := (Below.refl _ _).alloc (Nat.le_refl _) _
          replace uD := uD.below hal
          obtain ⟨xD, yD, _, _, _⟩ := Box.new w3 (.bool sd) (.slice A3 ld.length c3) 52
          have hs := from_ hb hal
          replace a0 := keepC hs a0
          replace a1 := keepC hs a1
          replace b0 := keepC hs b0
          replace b1 := keepC hs b1
          replace e0 := keepC hs e0
          replace e1 := keepC hs e1
          replace uA := uA.below hs
          replace uB := uB.below hs
          replace uC := uC.below hs
          replace hB := from_ hB hs
          clear hb hal hs
          go_wp2_with fail
          refine (sign_n (g := -1) Nc.out E2.out uC).mono ?_
          rintro e w4 ⟨rfl, hb⟩
          replace a0 := keepC hb a0
          replace a1 := keepC hb a1
          replace b0 := keepC hb b0
          replace b1 := keepC hb b1
          replace e0 := keepC hb e0
          replace e1 := keepC hb e1
          replace xD := keepC hb xD
          replace yD := keepC hb yD
          replace uA := uA.below hb
          replace uB := uB.below hb
          replace uC := uC.below hb
          replace uD := uD.below hb
          replace hB := from_ hB hb
          clear hb
          go_wp2_with fail
          refine (sign_n (g := 0) Nd.out E1.out uD).mono ?_
          rintro e w5 ⟨rfl, hb⟩
          replace a0 := keepC hb a0
          replace a1 := keepC hb a1
          replace b0 := keepC hb b0
          replace b1 := keepC hb b1
          replace e0 := keepC hb e0
          replace e1 := keepC hb e1
          replace xD := keepC hb xD
          replace yD := keepC hb yD
          replace uA := uA.below hb
          replace uB := uB.below hb
          replace uC := uC.below hb
          replace uD := uD.below hb
          replace hB := from_ hB hb
          clear hb
          go_wp2_with fail
          refine (cmp_n (g := 0) Nb.out Na.out E3.out b_b b_a uB uA).mono ?_
          rintro e w6 ⟨rfl, hb⟩
          replace a0 := keepC hb a0
          replace a1 := keepC hb a1
          replace b0 := keepC hb b0
          replace b1 := keepC hb b1
          replace e0 := keepC hb e0
          replace e1 := keepC hb e1
          replace xD := keepC hb xD
          replace yD := keepC hb yD
          replace uA := uA.below hb
          replace uB := uB.below hb
          replace uC := uC.below hb
          replace uD := uD.below hb
          replace hB := from_ hB hb
          clear hb
          go_wp2_with fail
          refine (wadd_n Na.out Nc.out Nxx.out rfl b_a b_c uA uC).mono ?_
          rintro e w7 ⟨A7, c7, rfl, uX, hb⟩
          have hal : Below w7.heap.size w7 (w7.alloc (.cells #[.bool sxx, .slice A7 lxx.length c7] 52)) := (Below.refl _ _).alloc (Nat.le_refl _) _
          replace uX := uX.below hal
          obtain ⟨xX, yX, _, _, _⟩ := Box.new w7 (.bool sxx) (.slice A7 lxx.length c7) 52
          have hs := from_ hb hal
          replace a0 := keepC hs a0
          replace a1 := keepC hs a1
          replace b0 := keepC hs b0
          replace b1 := keepC hs b1
          replace e0 := keepC hs e0
          replace e1 := keepC hs e1
          replace xD := keepC hs xD
          replace yD := keepC hs yD
          replace uA := uA.below hs
          replace uB := uB.below hs
          replace uC := uC.below hs
          replace uD := uD.below hs
          replace hB := from_ hB hs
          clear hb hal hs
          go_wp2_with fail
          refine (wadd_n Nb.out Nc.out Nyy.out rfl b_b b_c uB uC).mono ?_
          rintro e w8 ⟨A8, c8, rfl, uY, hb⟩
          have hal : Below w8.heap.size w8 (w8.alloc (.cells #[.bool syy, .slice A8 lyy.length c8] 52)) := (Below.refl _ _).alloc (Nat.le_refl _) _
          replace uY := uY.below hal
          obtain ⟨xY, yY, _, _, _⟩ := Box.new w8 (.bool syy) (.slice A8 lyy.length c8) 52
          have hs := from_ hb hal
          replace a0 := keepC hs a0
          replace a1 := keepC hs a1
          replace b0 := keepC hs b0
          replace b1 := keepC hs b1
          replace e0 := keepC hs e0
          replace e1 := keepC hs e1
          replace xD := keepC hs xD
          replace yD := keepC hs yD
          replace xX := keepC hs xX
          replace yX := keepC hs yX
          replace uA := uA.below hs
          replace uB := uB.below hs
          replace uC := uC.below hs
          replace uD := uD.below hs
          replace uX := uX.below hs
          replace hB := from_ hB hs
          clear hb hal hs
          go_wp2_with fail
          refine (cmp_n (g := 0) Nxx.out Nyy.out E4.out b_xx b_yy uX uY).mono ?_
          rintro e w9 ⟨rfl, hb⟩
          replace a0 := keepC hb a0
          replace a1 := keepC hb a1
          replace b0 := keepC hb b0
          replace b1 := keepC hb b1
          replace e0 := keepC hb e0
          replace e1 := keepC hb e1
          replace xD := keepC hb xD
          replace yD := keepC hb yD
          replace xX := keepC hb xX
          replace yX := keepC hb yX
          replace xY := keepC hb xY
          replace yY := keepC hb yY
          replace uA := uA.below hb
          replace uB := uB.below hb
          replace uC := uC.below hb
          replace uD := uD.below hb
          replace uX := uX.below hb
          replace uY := uY.below hb
          replace hB := from_ hB hb
          clear hb
          clear xD yD uD
          clear xX yX uX
          clear xY yY uY
          go_wp2_with fail
          refine (wmul_n Na.out Nc.out Nu.out rfl b_a b_c uA uC).mono ?_
          rintro e w10 ⟨A10, c10, rfl, uU, hb⟩
          have hal : Below w10.heap.size w10 (w10.alloc (.cells #[.bool su, .slice A10 lu.length c10] 52)) := (Below.refl _ _).alloc (Nat.le_refl _) _
          replace uU := uU.below hal
          obtain ⟨xU, yU, _, _, _⟩ := Box.new w10 (.bool su) (.slice A10 lu.length c10) 52
          have hs := from_ hb hal
          replace a0 := keepC hs a0
          replace a1 := keepC hs a1
          replace b0 := keepC hs b0
          replace b1 := keepC hs b1
          replace e0 := keepC hs e0
          replace e1 := keepC hs e1
          replace uA := uA.below hs
          replace uB := uB.below hs
          replace uC := uC.below hs
          replace hB := from_ hB hs
          clear hb hal hs
          go_wp2_with fail
          refine (wmul_n Nb.out Nc.out Nv.out rfl b_b b_c uB uC).mono ?_
          rintro e w11 ⟨A11, c11, rfl, uV, hb⟩
          have hal : Below w11.heap.size w11 (w11.alloc (.cells #[.bool sv, .slice A11 lv.length c11] 52)) := (Below.refl _ _).alloc (Nat.le_refl _) _
          replace uV := uV.below hal
          obtain ⟨xV, yV, _, _, _⟩ := Box.new w11 (.bool sv) (.slice A11 lv.length c11) 52
          have hs := from_ hb hal
          replace a0 := keepC hs a0
          replace a1 := keepC hs a1
          replace b0 := keepC hs b0
          replace b1 := keepC hs b1
          replace e0 := keepC hs e0
          replace e1 := keepC hs e1
          replace xU := keepC hs xU
          replace yU := keepC hs yU
          replace uA := uA.below hs
          replace uB := uB.below hs
          replace uC := uC.below hs
          replace uU := uU.below hs
          replace hB := from_ hB hs
          clear hb hal hs
          go_wp2_with fail
          refine (cmp_n (g := 0) Nu.out Nv.out (E5.out.trans rfl) b_u b_v uU uV).mono ?_
          rintro e w12 ⟨rfl, hb⟩
          replace a0 := keepC hb a0
          replace a1 := keepC hb a1
          replace b0 := keepC hb b0
          replace b1 := keepC hb b1
          replace e0 := keepC hb e0
          replace e1 := keepC hb e1
          replace xU := keepC hb xU
          replace yU := keepC hb yU
          replace xV := keepC hb xV
          replace yV := keepC hb yV
          replace uA := uA.below hb
          replace uB := uB.below hb
          replace uC := uC.below hb
          replace uU := uU.below hb
          replace uV := uV.below hb
          replace hB := from_ hB hb
          clear hb
          go_wp2_with fail
          refine (same_q (q := true) E6.out uA uB).mono ?_
          rintro e w13 ⟨rfl, hb⟩
          replace a0 := keepC hb a0
          replace a1 := keepC hb a1
          replace b0 := keepC hb b0
          replace b1 := keepC hb b1
          replace e0 := keepC hb e0
          replace e1 := keepC hb e1
          replace xU := keepC hb xU
          replace yU := keepC hb yU
          replace xV := keepC hb xV
          replace yV := keepC hb yV
          replace uA := uA.below hb
          replace uB := uB.below hb
          replace uC := uC.below hb
          replace uU := uU.below hb
          replace uV := uV.below hb
          replace hB := from_ hB hb
          clear hb
          go_wp2
          go_ret
          exact ⟨rfl, hB⟩
        · go_enter Try.func12, Try.ntmps12
          go_wp2_with fail
          refine (alive5 _).mono ?_
          rintro e w1 ⟨rfl, hb⟩
          replace a0 := keepC hb a0
          replace a1 := keepC hb a1
          replace b0 := keepC hb b0
          replace b1 := keepC hb b1
          replace e0 := keepC hb e0
          replace e1 := keepC hb e1
          replace uA := uA.below hb
          replace uB := uB.below hb
          replace uC := uC.below hb
          replace hB := from_ hB hb
          clear hb
          go_wp2_with fail
          refine (cmp_n (g := 0) Na.out Nb.out E1.out b_a b_b uA uB).mono ?_
          rintro e w2 ⟨rfl, hb⟩
          replace a0 := keepC hb a0
          replace a1 := keepC hb a1
          replace b0 := keepC hb b0
          replace b1 := keepC hb b1
          replace e0 := keepC hb e0
          replace e1 := keepC hb e1
          replace uA := uA.below hb
          replace uB := uB.below hb
          replace uC := uC.below hb
          replace hB := from_ hB hb
          clear hb
          go_wp2_with fail
          refine (wsub_n Na.out Nb.out Nd.out rfl b_a b_b uA uB).mono ?_
          rintro e w3 ⟨A3, c3, rfl, uD, hb⟩
          have hal : Below w3.heap.size w3 (w3.alloc (.cells #[.bool sd, .slice A3 ld.length c3] 52)) := (Below.refl _ _).alloc (Nat.le_refl _) _
          replace uD := uD.below hal
          obtain ⟨xD, yD, _, _, _⟩ := Box.new w3 (.bool sd) (.slice A3 ld.length c3) 52
          have hs := from_ hb hal
          replace a0 := keepC hs a0
          replace a1 := keepC hs a1
          replace b0 := keepC hs b0
          replace b1 := keepC hs b1
          replace e0 := keepC hs e0
          replace e1 := keepC hs e1
          replace uA := uA.below hs
          replace uB := uB.below hs
          replace uC := uC.below hs
          replace hB := from_ hB hs
          clear hb hal hs
          go_wp2_with fail
          refine (sign_n (g := 0) Nc.out E2.out uC).mono ?_
          rintro e w4 ⟨rfl, hb⟩
          replace a0 := keepC hb a0
          replace a1 := keepC hb a1
          replace b0 := keepC hb b0
          replace b1 := keepC hb b1
          replace e0 := keepC hb e0
          replace e1 := keepC hb e1
          replace xD := keepC hb xD
          replace yD := keepC hb yD
          replace uA := uA.below hb
          replace uB := uB.below hb
          replace uC := uC.below hb
          replace uD := uD.below hb
          replace hB := from_ hB hb
          clear hb
          go_wp2_with fail
          refine (sign_n (g := 0) Nd.out E1.out uD).mono ?_
          rintro e w5 ⟨rfl, hb⟩
          replace a0 := keepC hb a0
          replace a1 := keepC hb a1
          replace b0 := keepC hb b0
          replace b1 := keepC hb b1
          replace e0 := keepC hb e0
          replace e1 := keepC hb e1
          replace xD := keepC hb xD
          replace yD := keepC hb yD
          replace uA := uA.below hb
          replace uB := uB.below hb
          replace uC := uC.below hb
          replace uD := uD.below hb
          replace hB := from_ hB hb
          clear hb
          go_wp2_with fail
          refine (cmp_n (g := 0) Nb.out Na.out E3.out b_b b_a uB uA).mono ?_
          rintro e w6 ⟨rfl, hb⟩
          replace a0 := keepC hb a0
          replace a1 := keepC hb a1
          replace b0 := keepC hb b0
          replace b1 := keepC hb b1
          replace e0 := keepC hb e0
          replace e1 := keepC hb e1
          replace xD := keepC hb xD
          replace yD := keepC hb yD
          replace uA := uA.below hb
          replace uB := uB.below hb
          replace uC := uC.below hb
          replace uD := uD.below hb
          replace hB := from_ hB hb
          clear hb
          go_wp2_with fail
          refine (wadd_n Na.out Nc.out Nxx.out rfl b_a b_c uA uC).mono ?_
          rintro e w7 ⟨A7, c7, rfl, uX, hb⟩
          have hal : Below w7.heap.size w7 (w7.alloc (.cells #[.bool sxx, .slice A7 lxx.length c7] 52)) := (Below.refl _ _).alloc (Nat.le_refl _) _
          replace uX := uX.below hal
          obtain ⟨xX, yX, _, _, _⟩ := Box.new w7 (.bool sxx) (.slice A7 lxx.length c7) 52
          have hs := from_ hb hal
          replace a0 := keepC hs a0
          replace a1 := keepC hs a1
          replace b0 := keepC hs b0
          replace b1 := keepC hs b1
          replace e0 := keepC hs e0
          replace e1 := keepC hs e1
          replace xD := keepC hs xD
          replace yD := keepC hs yD
          replace uA := uA.below hs
          replace uB := uB.below hs
          replace uC := uC.below hs
          replace uD := uD.below hs
          replace hB := from_ hB hs
          clear hb hal hs
          go_wp2_with fail
          refine (wadd_n Nb.out Nc.out Nyy.out rfl b_b b_c uB uC).mono ?_
          rintro e w8 ⟨A8, c8, rfl, uY, hb⟩
          have hal : Below w8.heap.size w8 (w8.alloc (.cells #[.bool syy, .slice A8 lyy.length c8] 52)) := (Below.refl _ _).alloc (Nat.le_refl _) _
          replace uY := uY.below hal
          obtain ⟨xY, yY, _, _, _⟩ := Box.new w8 (.bool syy) (.slice A8 lyy.length c8) 52
          have hs := from_ hb hal
          replace a0 := keepC hs a0
          replace a1 := keepC hs a1
          replace b0 := keepC hs b0
          replace b1 := keepC hs b1
          replace e0 := keepC hs e0
          replace e1 := keepC hs e1
          replace xD := keepC hs xD
          replace yD := keepC hs yD
          replace xX := keepC hs xX
          replace yX := keepC hs yX
          replace uA := uA.below hs
          replace uB := uB.below hs
          replace uC := uC.below hs
          replace uD := uD.below hs
          replace uX := uX.below hs
          replace hB := from_ hB hs
          clear hb hal hs
          go_wp2_with fail
          refine (cmp_n (g := 0) Nxx.out Nyy.out E4.out b_xx b_yy uX uY).mono ?_
          rintro e w9 ⟨rfl, hb⟩
          replace a0 := keepC hb a0
          replace a1 := keepC hb a1
          replace b0 := keepC hb b0
          replace b1 := keepC hb b1
          replace e0 := keepC hb e0
          replace e1 := keepC hb e1
          replace xD := keepC hb xD
          replace yD := keepC hb yD
          replace xX := keepC hb xX
          replace yX := keepC hb yX
          replace xY := keepC hb xY
          replace yY := keepC hb yY
          replace uA := uA.below hb
          replace uB := uB.below hb
          replace uC := uC.below hb
          replace uD := uD.below hb
          replace uX := uX.below hb
          replace uY := uY.below hb
          replace hB := from_ hB hb
          clear hb
          clear xD yD uD
          clear xX yX uX
          clear xY yY uY
          go_wp2_with fail
          refine (wmul_n Na.out Nc.out Nu.out rfl b_a b_c uA uC).mono ?_
          rintro e w10 ⟨A10, c10, rfl, uU, hb⟩
          have hal : Below w10.heap.size w10 (w10.alloc (.cells #[.bool su, .slice A10 lu.length c10] 52)) := (Below.refl _ _).alloc (Nat.le_refl _) _
          replace uU := uU.below hal
          obtain ⟨xU, yU, _, _, _⟩ := Box.new w10 (.bool su) (.slice A10 lu.length c10) 52
          have hs := from_ hb hal
          replace a0 := keepC hs a0
          replace a1 := keepC hs a1
          replace b0 := keepC hs b0
          replace b1 := keepC hs b1
          replace e0 := keepC hs e0
          replace e1 := keepC hs e1
          replace uA := uA.below hs
          replace uB := uB.below hs
          replace uC := uC.below hs
          replace hB := from_ hB hs
          clear hb hal hs
          go_wp2_with fail
          refine (wmul_n Nb.out Nc.out Nv.out rfl b_b b_c uB uC).mono ?_
          rintro e w11 ⟨A11, c11, rfl, uV, hb⟩
          have hal : Below w11.heap.size w11 (w11.alloc (.cells #[.bool sv, .slice A11 lv.length c11] 52)) := (Below.refl _ _).alloc (Nat.le_refl _) _
          replace uV := uV.below hal
          obtain ⟨xV, yV, _, _, _⟩ := Box.new w11 (.bool sv) (.slice A11 lv.length c11) 52
          have hs := from_ hb hal
          replace a0 := keepC hs a0
          replace a1 := keepC hs a1
          replace b0 := keepC hs b0
          replace b1 := keepC hs b1
          replace e0 := keepC hs e0
          replace e1 := keepC hs e1
          replace xU := keepC hs xU
          replace yU := keepC hs yU
          replace uA := uA.below hs
          replace uB := uB.below hs
          replace uC := uC.below hs
          replace uU := uU.below hs
          replace hB := from_ hB hs
          clear hb hal hs
          go_wp2_with fail
          refine (cmp_n (g := 0) Nu.out Nv.out (E5.out.trans rfl) b_u b_v uU uV).mono ?_
          rintro e w12 ⟨rfl, hb⟩
          replace a0 := keepC hb a0
          replace a1 := keepC hb a1
          replace b0 := keepC hb b0
          replace b1 := keepC hb b1
          replace e0 := keepC hb e0
          replace e1 := keepC hb e1
          replace xU := keepC hb xU
          replace yU := keepC hb yU
          replace xV := keepC hb xV
          replace yV := keepC hb yV
          replace uA := uA.below hb
          replace uB := uB.below hb
          replace uC := uC.below hb
          replace uU := uU.below hb
          replace uV := uV.below hb
          replace hB := from_ hB hb
          clear hb
          go_wp2_with fail
          refine (same_q (q := true) E6.out uA uB).mono ?_
          rintro e w13 ⟨rfl, hb⟩
          replace a0 := keepC hb a0
          replace a1 := keepC hb a1
          replace b0 := keepC hb b0
          replace b1 := keepC hb b1
          replace e0 := keepC hb e0
          replace e1 := keepC hb e1
          replace xU := keepC hb xU
          replace yU := keepC hb yU
          replace xV := keepC hb xV
          replace yV := keepC hb yV
          replace uA := uA.below hb
          replace uB := uB.below hb
          replace uC := uC.below hb
          replace uU := uU.below hb
          replace uV := uV.below hb
          replace hB := from_ hB hb
          clear hb
          go_wp2
          go_ret
          exact ⟨rfl, hB⟩
        · go_enter Try.func12, Try.ntmps12
          go_wp2_with fail
          refine (alive5 _).mono ?_
          rintro e w1 ⟨rfl, hb⟩
          replace a0 := keepC hb a0
          replace a1 := keepC hb a1
          replace b0 := keepC hb b0
          replace b1 := keepC hb b1
          replace e0 := keepC hb e0
          replace e1 := keepC hb e1
          replace uA := uA.below hb
          replace uB := uB.below hb
          replace uC := uC.below hb
          replace hB := from_ hB hb
          clear hb
          go_wp2_with fail
          refine (cmp_n (g := 0) Na.out Nb.out E1.out b_a b_b uA uB).mono ?_
          rintro e w2 ⟨rfl, hb⟩
          replace a0 := keepC hb a0
          replace a1 := keepC hb a1
          replace b0 := keepC hb b0
          replace b1 := keepC hb b1
          replace e0 := keepC hb e0
          replace e1 := keepC hb e1
          replace uA := uA.below hb
          replace uB := uB.below hb
          replace uC := uC.below hb
          replace hB := from_ hB hb
          clear hb
          go_wp2_with fail
          refine (wsub_n Na.out Nb.out Nd.out rfl b_a b_b uA uB).mono ?_
          rintro e w3 ⟨A3, c3, rfl, uD, hb⟩
          have hal : Below w3.heap.size w3 (w3.alloc (.cells #[.bool sd, .slice A3 ld.length c3] 52)) := (Below.refl _ _).alloc (Nat.le_refl _) _
          replace uD := uD.below hal
          obtain ⟨xD, yD, _, _, _⟩ := Box.new w3 (.bool sd) (.slice A3 ld.length c3) 52
          have hs := from_ hb hal
          replace a0 := keepC hs a0
          replace a1 := keepC hs a1
          replace b0 := keepC hs b0
          replace b1 := keepC hs b1
          replace e0 := keepC hs e0
          replace e1 := keepC hs e1
          replace uA := uA.below hs
          replace uB := uB.below hs
          replace uC := uC.below hs
          replace hB := from_ hB hs
          clear hb hal hs
          go_wp2_with fail
          refine (sign_n (g := 1) Nc.out E2.out uC).mono ?_
          rintro e w4 ⟨rfl, hb⟩
          replace a0 := keepC hb a0
          replace a1 := keepC hb a1
          replace b0 := keepC hb b0
          replace b1 := keepC hb b1
          replace e0 := keepC hb e0
          replace e1 := keepC hb e1
          replace xD := keepC hb xD
          replace yD := keepC hb yD
          replace uA := uA.below hb
          replace uB := uB.below hb
          replace uC := uC.below hb
          replace uD := uD.below hb
          replace hB := from_ hB hb
          clear hb
          go_wp2_with fail
          refine (sign_n (g := 0) Nd.out E1.out uD).mono ?_
          rintro e w5 ⟨rfl, hb⟩
          replace a0 := keepC hb a0
          replace a1 := keepC hb a1
          replace b0 := keepC hb b0
          replace b1 := keepC hb b1
          replace e0 := keepC hb e0
          replace e1 := keepC hb e1
          replace xD := keepC hb xD
          replace yD := keepC hb yD
          replace uA := uA.below hb
          replace uB := uB.below hb
          replace uC := uC.below hb
          replace uD := uD.below hb
          replace hB := from_ hB hb
          clear hb
          go_wp2_with fail
          refine (cmp_n (g := 0) Nb.out Na.out E3.out b_b b_a uB uA).mono ?_
          rintro e w6 ⟨rfl, hb⟩
          replace a0 := keepC hb a0
          replace a1 := keepC hb a1
          replace b0 := keepC hb b0
          replace b1 := keepC hb b1
          replace e0 := keepC hb e0
          replace e1 := keepC hb e1
          replace xD := keepC hb xD
          replace yD := keepC hb yD
          replace uA := uA.below hb
          replace uB := uB.below hb
          replace uC := uC.below hb
          replace uD := uD.below hb
          replace hB := from_ hB hb
          clear hb
          go_wp2_with fail
          refine (wadd_n Na.out Nc.out Nxx.out rfl b_a b_c uA uC).mono ?_
          rintro e w7 ⟨A7, c7, rfl, uX, hb⟩
          have hal : Below w7.heap.size w7 (w7.alloc (.cells #[.bool sxx, .slice A7 lxx.length c7] 52)) := (Below.refl _ _).alloc (Nat.le_refl _) _
          replace uX := uX.below hal
          obtain ⟨xX, yX, _, _, _⟩ := Box.new w7 (.bool sxx) (.slice A7 lxx.length c7) 52
          have hs := from_ hb hal
          replace a0 := keepC hs a0
          replace a1 := keepC hs a1
          replace b0 := keepC hs b0
          replace b1 := keepC hs b1
          replace e0 := keepC hs e0
          replace e1 := keepC hs e1
          replace xD := keepC hs xD
          replace yD := keepC hs yD
          replace uA := uA.below hs
          replace uB := uB.below hs
          replace uC := uC.below hs
          replace uD := uD.below hs
          replace hB := from_ hB hs
          clear hb hal hs
          go_wp2_with fail
          refine (wadd_n Nb.out Nc.out Nyy.out rfl b_b b_c uB uC).mono ?_
          rintro e w8 ⟨A8, c8, rfl, uY, hb⟩
          have hal : Below w8.heap.size w8 (w8.alloc (.cells #[.bool syy, .slice A8 lyy.length c8] 52)) := (Below.refl _ _).alloc (Nat.le_refl _) _
          replace uY := uY.below hal
          obtain ⟨xY, yY, _, _, _⟩ := Box.new w8 (.bool syy) (.slice A8 lyy.length c8) 52
          have hs := from_ hb hal
          replace a0 := keepC hs a0
          replace a1 := keepC hs a1
          replace b0 := keepC hs b0
          replace b1 := keepC hs b1
          replace e0 := keepC hs e0
          replace e1 := keepC hs e1
          replace xD := keepC hs xD
          replace yD := keepC hs yD
          replace xX := keepC hs xX
          replace yX := keepC hs yX
          replace uA := uA.below hs
          replace uB := uB.below hs
          replace uC := uC.below hs
          replace uD := uD.below hs
          replace uX := uX.below hs
          replace hB := from_ hB hs
          clear hb hal hs
          go_wp2_with fail
          refine (cmp_n (g := 0) Nxx.out Nyy.out E4.out b_xx b_yy uX uY).mono ?_
          rintro e w9 ⟨rfl, hb⟩
          replace a0 := keepC hb a0
          replace a1 := keepC hb a1
          replace b0 := keepC hb b0
          replace b1 := keepC hb b1
          replace e0 := keepC hb e0
          replace e1 := keepC hb e1
          replace xD := keepC hb xD
          replace yD := keepC hb yD
          replace xX := keepC hb xX
          replace yX := keepC hb yX
          replace xY := keepC hb xY
          replace yY := keepC hb yY
          replace uA := uA.below hb
          replace uB := uB.below hb
          replace uC := uC.below hb
          replace uD := uD.below hb
          replace uX := uX.below hb
          replace uY := uY.below hb
          replace hB := from_ hB hb
          clear hb
          clear xD yD uD
          clear xX yX uX
          clear xY yY uY
          go_wp2_with fail
          refine (wmul_n Na.out Nc.out Nu.out rfl b_a b_c uA uC).mono ?_
          rintro e w10 ⟨A10, c10, rfl, uU, hb⟩
          have hal : Below w10.heap.size w10 (w10.alloc (.cells #[.bool su, .slice A10 lu.length c10] 52)) := (Below.refl _ _).alloc (Nat.le_refl _) _
          replace uU := uU.below hal
          obtain ⟨xU, yU, _, _, _⟩ := Box.new w10 (.bool su) (.slice A10 lu.length c10) 52
          have hs := from_ hb hal
          replace a0 := keepC hs a0
          replace a1 := keepC hs a1
          replace b0 := keepC hs b0
          replace b1 := keepC hs b1
          replace e0 := keepC hs e0
          replace e1 := keepC hs e1
          replace uA := uA.below hs
          replace uB := uB.below hs
          replace uC := uC.below hs
          replace hB := from_ hB hs
          clear hb hal hs
          go_wp2_with fail
          refine (wmul_n Nb.out Nc.out Nv.out rfl b_b b_c uB uC).mono ?_
          rintro e w11 ⟨A11, c11, rfl, uV, hb⟩
          have hal : Below w11.heap.size w11 (w11.alloc (.cells #[.bool sv, .slice A11 lv.length c11] 52)) := (Below.refl _ _).alloc (Nat.le_refl _) _
          replace uV := uV.below hal
          obtain ⟨xV, yV, _, _, _⟩ := Box.new w11 (.bool sv) (.slice A11 lv.length c11) 52
          have hs := from_ hb hal
          replace a0 := keepC hs a0
          replace a1 := keepC hs a1
          replace b0 := keepC hs b0
          replace b1 := keepC hs b1
          replace e0 := keepC hs e0
          replace e1 := keepC hs e1
          replace xU := keepC hs xU
          replace yU := keepC hs yU
          replace uA := uA.below hs
          replace uB := uB.below hs
          replace uC := uC.below hs
          replace uU := uU.below hs
          replace hB := from_ hB hs
          clear hb hal hs
          go_wp2_with fail
          refine (cmp_n (g := 0) Nu.out Nv.out (E5.out.trans rfl) b_u b_v uU uV).mono ?_
          rintro e w12 ⟨rfl, hb⟩
          replace a0 := keepC hb a0
          replace a1 := keepC hb a1
          replace b0 := keepC hb b0
          replace b1 := keepC hb b1
          replace e0 := keepC hb e0
          replace e1 := keepC hb e1
          replace xU := keepC hb xU
          replace yU := keepC hb yU
          replace xV := keepC hb xV
          replace yV := keepC hb yV
          replace uA := uA.below hb
          replace uB := uB.below hb
          replace uC := uC.below hb
          replace uU := uU.below hb
          replace uV := uV.below hb
          replace hB := from_ hB hb
          clear hb
          go_wp2_with fail
          refine (same_q (q := true) E6.out uA uB).mono ?_
          rintro e w13 ⟨rfl, hb⟩
          replace a0 := keepC hb a0
          replace a1 := keepC hb a1
          replace b0 := keepC hb b0
          replace b1 := keepC hb b1
          replace e0 := keepC hb e0
          replace e1 := keepC hb e1
          replace xU := keepC hb xU
          replace yU := keepC hb yU
          replace xV := keepC hb xV
          replace yV := keepC hb yV
          replace uA := uA.below hb
          replace uB := uB.below hb
          replace uC := uC.below hb
          replace uU := uU.below hb
          replace uV := uV.below hb
          replace hB := from_ hB hb
          clear hb
          go_wp2
          go_ret
          exact ⟨rfl, hB⟩
        · go_enter Try.func12, Try.ntmps12
          go_wp2_with fail
          refine (alive5 _).mono ?_
          rintro e w1 ⟨rfl, hb⟩
          replace a0 := keepC hb a0
          replace a1 := keepC hb a1
          replace b0 := keepC hb b0
          replace b1 := keepC hb b1
          replace e0 := keepC hb e0
          replace e1 := keepC hb e1
          replace uA := uA.below hb
          replace uB := uB.below hb
          replace uC := uC.below hb
          replace hB := from_ hB hb
          clear hb
          go_wp2_with fail
          refine (cmp_n (g := 1) Na.out Nb.out E1.out b_a b_b uA uB).mono ?_
          rintro e w2 ⟨rfl, hb⟩
          replace a0 := keepC hb a0
          replace a1 := keepC hb a1
          replace b0 := keepC hb b0
          replace b1 := keepC hb b1
          replace e0 := keepC hb e0
          replace e1 := keepC hb e1
          replace uA := uA.below hb
          replace uB := uB.below hb
          replace uC := uC.below hb
          replace hB := from_ hB hb
          clear hb
          go_wp2_with fail
          refine (wsub_n Na.out Nb.out Nd.out rfl b_a b_b uA uB).mono ?_
          rintro e w3 ⟨A3, c3, rfl, uD, hb⟩
          have hal : Below w3.heap.size w3 (w3.alloc (.cells #[.bool sd, .slice A3 ld.length c3] 52)) := (Below.refl _ _).alloc (Nat.le_refl _) _
          replace uD := uD.below hal
          obtain ⟨xD, yD, _, _, _⟩ := Box.new w3 (.bool sd) (.slice A3 ld.length c3) 52
          have hs := from_ hb hal
          replace a0 := keepC hs a0
          replace a1 := keepC hs a1
          replace b0 := keepC hs b0
          replace b1 := keepC hs b1
          replace e0 := keepC hs e0
          replace e1 := keepC hs e1
          replace uA := uA.below hs
          replace uB := uB.below hs
          replace uC := uC.below hs
          replace hB := from_ hB hs
          clear hb hal hs
          go_wp2_with fail
          refine (sign_n (g := -1) Nc.out E2.out uC).mono ?_
          rintro e w4 ⟨rfl, hb⟩
          replace a0 := keepC hb a0
          replace a1 := keepC hb a1
          replace b0 := keepC hb b0
          replace b1 := keepC hb b1
          replace e0 := keepC hb e0
          replace e1 := keepC hb e1
          replace xD := keepC hb xD
          replace yD := keepC hb yD
          replace uA := uA.below hb
          replace uB := uB.below hb
          replace uC := uC.below hb
          replace uD := uD.below hb
          replace hB := from_ hB hb
          clear hb
          go_wp2_with fail
          refine (sign_n (g := 1) Nd.out E1.out uD).mono ?_
          rintro e w5 ⟨rfl, hb⟩
          replace a0 := keepC hb a0
          replace a1 := keepC hb a1
          replace b0 := keepC hb b0
          replace b1 := keepC hb b1
          replace e0 := keepC hb e0
          replace e1 := keepC hb e1
          replace xD := keepC hb xD
          replace yD := keepC hb yD
          replace uA := uA.below hb
          replace uB := uB.below hb
          replace uC := uC.below hb
          replace uD := uD.below hb
          replace hB := from_ hB hb
          clear hb
          go_wp2_with fail
          refine (cmp_n (g := -1) Nb.out Na.out E3.out b_b b_a uB uA).mono ?_
          rintro e w6 ⟨rfl, hb⟩
          replace a0 := keepC hb a0
          replace a1 := keepC hb a1
          replace b0 := keepC hb b0
          replace b1 := keepC hb b1
          replace e0 := keepC hb e0
          replace e1 := keepC hb e1
          replace xD := keepC hb xD
          replace yD := keepC hb yD
          replace uA := uA.below hb
          replace uB := uB.below hb
          replace uC := uC.below hb
          replace uD := uD.below hb
          replace hB := from_ hB hb
          clear hb
          go_wp2_with fail
          refine (wadd_n Na.out Nc.out Nxx.out rfl b_a b_c uA uC).mono ?_
          rintro e w7 ⟨A7, c7, rfl, uX, hb⟩
          have hal : Below w7.heap.size w7 (w7.alloc (.cells #[.bool sxx, .slice A7 lxx.length c7] 52)) := (Below.refl _ _).alloc (Nat.le_refl _) _
          replace uX := uX.below hal
          obtain ⟨xX, yX, _, _, _⟩ := Box.new w7 (.bool sxx) (.slice A7 lxx.length c7) 52
          have hs := from_ hb hal
          replace a0 := keepC hs a0
          replace a1 := keepC hs a1
          replace b0 := keepC hs b0
          replace b1 := keepC hs b1
          replace e0 := keepC hs e0
          replace e1 := keepC hs e1
          replace xD := keepC hs xD
          replace yD := keepC hs yD
          replace uA := uA.below hs
          replace uB := uB.below hs
          replace uC := uC.below hs
          replace uD := uD.below hs
          replace hB := from_ hB hs
          clear hb hal hs
          go_wp2_with fail
          refine (wadd_n Nb.out Nc.out Nyy.out rfl b_b b_c uB uC).mono ?_
          rintro e w8 ⟨A8, c8, rfl, uY, hb⟩
          have hal : Below w8.heap.size w8 (w8.alloc (.cells #[.bool syy, .slice A8 lyy.length c8] 52)) := (Below.refl _ _).alloc (Nat.le_refl _) _
          replace uY := uY.below hal
          obtain ⟨xY, yY, _, _, _⟩ := Box.new w8 (.bool syy) (.slice A8 lyy.length c8) 52
          have hs := from_ hb hal
          replace a0 := keepC hs a0
          replace a1 := keepC hs a1
          replace b0 := keepC hs b0
          replace b1 := keepC hs b1
          replace e0 := keepC hs e0
          replace e1 := keepC hs e1
          replace xD := keepC hs xD
          replace yD := keepC hs yD
          replace xX := keepC hs xX
          replace yX := keepC hs yX
          replace uA := uA.below hs
          replace uB := uB.below hs
          replace uC := uC.below hs
          replace uD := uD.below hs
          replace uX := uX.below hs
          replace hB := from_ hB hs
          clear hb hal hs
          go_wp2_with fail
          refine (cmp_n (g := 1) Nxx.out Nyy.out E4.out b_xx b_yy uX uY).mono ?_
          rintro e w9 ⟨rfl, hb⟩
          replace a0 := keepC hb a0
          replace a1 := keepC hb a1
          replace b0 := keepC hb b0
          replace b1 := keepC hb b1
          replace e0 := keepC hb e0
          replace e1 := keepC hb e1
          replace xD := keepC hb xD
          replace yD := keepC hb yD
          replace xX := keepC hb xX
          replace yX := keepC hb yX
          replace xY := keepC hb xY
          replace yY := keepC hb yY
          replace uA := uA.below hb
          replace uB := uB.below hb
          replace uC := uC.below hb
          replace uD := uD.below hb
          replace uX := uX.below hb
          replace uY := uY.below hb
          replace hB := from_ hB hb
          clear hb
          clear xD yD uD
          clear xX yX uX
          clear xY yY uY
          go_wp2_with fail
          refine (wmul_n Na.out Nc.out Nu.out rfl b_a b_c uA uC).mono ?_
          rintro e w10 ⟨A10, c10, rfl, uU, hb⟩
          have hal : Below w10.heap.size w10 (w10.alloc (.cells #[.bool su, .slice A10 lu.length c10] 52)) := (Below.refl _ _).alloc (Nat.le_refl _) _
          replace uU := uU.below hal
          obtain ⟨xU, yU, _, _, _⟩ := Box.new w10 (.bool su) (.slice A10 lu.length c10) 52
          have hs := from_ hb hal
          replace a0 := keepC hs a0
          replace a1 := keepC hs a1
          replace b0 := keepC hs b0
          replace b1 := keepC hs b1
          replace e0 := keepC hs e0
          replace e1 := keepC hs e1
          replace uA := uA.below hs
          replace uB := uB.below hs
          replace uC := uC.below hs
          replace hB := from_ hB hs
          clear hb hal hs
          go_wp2_with fail
          refine (wmul_n Nb.out Nc.out Nv.out rfl b_b b_c uB uC).mono ?_
          rintro e w11 ⟨A11, c11, rfl, uV, hb⟩
          have hal : Below w11.heap.size w11 (w11.alloc (.cells #[.bool sv, .slice A11 lv.length c11] 52)) := (Below.refl _ _).alloc (Nat.le_refl _) _
          replace uV := uV.below hal
          obtain ⟨xV, yV, _, _, _⟩ := Box.new w11 (.bool sv) (.slice A11 lv.length c11) 52
          have hs := from_ hb hal
          replace a0 := keepC hs a0
          replace a1 := keepC hs a1
          replace b0 := keepC hs b0
          replace b1 := keepC hs b1
          replace e0 := keepC hs e0
          replace e1 := keepC hs e1
          replace xU := keepC hs xU
          replace yU := keepC hs yU
          replace uA := uA.below hs
          replace uB := uB.below hs
          replace uC := uC.below hs
          replace uU := uU.below hs
          replace hB := from_ hB hs
          clear hb hal hs
          go_wp2_with fail
          refine (cmp_n (g := -1) Nu.out Nv.out (E5.out.trans rfl) b_u b_v uU uV).mono ?_
          rintro e w12 ⟨rfl, hb⟩
          replace a0 := keepC hb a0
          replace a1 := keepC hb a1
          replace b0 := keepC hb b0
          replace b1 := keepC hb b1
          replace e0 := keepC hb e0
          replace e1 := keepC hb e1
          replace xU := keepC hb xU
          replace yU := keepC hb yU
          replace xV := keepC hb xV
          replace yV := keepC hb yV
          replace uA := uA.below hb
          replace uB := uB.below hb
          replace uC := uC.below hb
          replace uU := uU.below hb
          replace uV := uV.below hb
          replace hB := from_ hB hb
          clear hb
          go_wp2_with fail
          refine (same_q (q := false) E6.out uA uB).mono ?_
          rintro e w13 ⟨rfl, hb⟩
          replace a0 := keepC hb a0
          replace a1 := keepC hb a1
          replace b0 := keepC hb b0
          replace b1 := keepC hb b1
          replace e0 := keepC hb e0
          replace e1 := keepC hb e1
          replace xU := keepC hb xU
          replace yU := keepC hb yU
          replace xV := keepC hb xV
          replace yV := keepC hb yV
          replace uA := uA.below hb
          replace uB := uB.below hb
          replace uC := uC.below hb
          replace uU := uU.below hb
          replace uV := uV.below hb
          replace hB := from_ hB hb
          clear hb
          go_wp2
          go_ret
          exact ⟨rfl, hB⟩
        · go_enter Try.func12, Try.ntmps12
          go_wp2_with fail
          refine (alive5 _).mono ?_
          rintro e w1 ⟨rfl, hb⟩
          replace a0 := keepC hb a0
          replace a1 := keepC hb a1
          replace b0 := keepC hb b0
          replace b1 := keepC hb b1
          replace e0 := keepC hb e0
          replace e1 := keepC hb e1
          replace uA := uA.below hb
          replace uB := uB.below hb
          replace uC := uC.below hb
          replace hB := from_ hB hb
          clear hb
          go_wp2_with fail
          refine (cmp_n (g := 1) Na.out Nb.out E1.out b_a b_b uA uB).mono ?_
          rintro e w2 ⟨rfl, hb⟩
          replace a0 := keepC hb a0
          replace a1 := keepC hb a1
          replace b0 := keepC hb b0
          replace b1 := keepC hb b1
          replace e0 := keepC hb e0
          replace e1 := keepC hb e1
          replace uA := uA.below hb
          replace uB := uB.below hb
          replace uC := uC.below hb
          replace hB := from_ hB hb
          clear hb
          go_wp2_with fail
          refine (wsub_n Na.out Nb.out Nd.out rfl b_a b_b uA uB).mono ?_
          rintro e w3 ⟨A3, c3, rfl, uD, hb⟩
          have hal : Below w3.heap.size w3 (w3.alloc (.cells #[.bool sd, .slice A3 ld.length c3] 52)) := (Below.refl _ _).alloc (Nat.le_refl _) _
          replace uD := uD.below hal
          obtain ⟨xD, yD, _, _, _⟩ := Box.new w3 (.bool sd) (.slice A3 ld.length c3) 52
          have hs := from_ hb hal
          replace a0 := keepC hs a0
          replace a1 := keepC hs a1
          replace b0 := keepC hs b0
          replace b1 := keepC hs b1
          replace e0 := keepC hs e0
          replace e1 := keepC hs e1
          replace uA := uA.below hs
          replace uB := uB.below hs
          replace uC := uC.below hs
          replace hB := from_ hB hs
          clear hb hal hs
          go_wp2_with fail
          refine (sign_n (g := 0) Nc.out E2.out uC).mono ?_
          rintro e w4 ⟨rfl, hb⟩
          replace a0 := keepC hb a0
          replace a1 := keepC hb a1
          replace b0 := keepC hb b0
          replace b1 := keepC hb b1
          replace e0 := keepC hb e0
          replace e1 := keepC hb e1
          replace xD := keepC hb xD
          replace yD := keepC hb yD
          replace uA := uA.below hb
          replace uB := uB.below hb
          replace uC := uC.below hb
          replace uD := uD.below hb
          replace hB := from_ hB hb
          clear hb
          go_wp2_with fail
          refine (sign_n (g := 1) Nd.out E1.out uD).mono ?_
          rintro e w5 ⟨rfl, hb⟩
          replace a0 := keepC hb a0
          replace a1 := keepC hb a1
          replace b0 := keepC hb b0
          replace b1 := keepC hb b1
          replace e0 := keepC hb e0
          replace e1 := keepC hb e1
          replace xD := keepC hb xD
          replace yD := keepC hb yD
          replace uA := uA.below hb
          replace uB := uB.below hb
          replace uC := uC.below hb
          replace uD := uD.below hb
          replace hB := from_ hB hb
          clear hb
          go_wp2_with fail
          refine (cmp_n (g := -1) Nb.out Na.out E3.out b_b b_a uB uA).mono ?_
          rintro e w6 ⟨rfl, hb⟩
          replace a0 := keepC hb a0
          replace a1 := keepC hb a1
          replace b0 := keepC hb b0
          replace b1 := keepC hb b1
          replace e0 := keepC hb e0
          replace e1 := keepC hb e1
          replace xD := keepC hb xD
          replace yD := keepC hb yD
          replace uA := uA.below hb
          replace uB := uB.below hb
          replace uC := uC.below hb
          replace uD := uD.below hb
          replace hB := from_ hB hb
          clear hb
          go_wp2_with fail
          refine (wadd_n Na.out Nc.out Nxx.out rfl b_a b_c uA uC).mono ?_
          rintro e w7 ⟨A7, c7, rfl, uX, hb⟩
          have hal : Below w7.heap.size w7 (w7.alloc (.cells #[.bool sxx, .slice A7 lxx.length c7] 52)) := (Below.refl _ _).alloc (Nat.le_refl _) _
          replace uX := uX.below hal
          obtain ⟨xX, yX, _, _, _⟩ := Box.new w7 (.bool sxx) (.slice A7 lxx.length c7) 52
          have hs := from_ hb hal
          replace a0 := keepC hs a0
          replace a1 := keepC hs a1
          replace b0 := keepC hs b0
          replace b1 := keepC hs b1
          replace e0 := keepC hs e0
          replace e1 := keepC hs e1
          replace xD := keepC hs xD
          replace yD := keepC hs yD
          replace uA := uA.below hs
          replace uB := uB.below hs
          replace uC := uC.below hs
          replace uD := uD.below hs
          replace hB := from_ hB hs
          clear hb hal hs
          go_wp2_with fail
          refine (wadd_n Nb.out Nc.out Nyy.out rfl b_b b_c uB uC).mono ?_
          rintro e w8 ⟨A8, c8, rfl, uY, hb⟩
          have hal : Below w8.heap.size w8 (w8.alloc (.cells #[.bool syy, .slice A8 lyy.length c8] 52)) := (Below.refl _ _).alloc (Nat.le_refl _) _
          replace uY := uY.below hal
          obtain ⟨xY, yY, _, _, _⟩ := Box.new w8 (.bool syy) (.slice A8 lyy.length c8) 52
          have hs := from_ hb hal
          replace a0 := keepC hs a0
          replace a1 := keepC hs a1
          replace b0 := keepC hs b0
          replace b1 := keepC hs b1
          replace e0 := keepC hs e0
          replace e1 := keepC hs e1
          replace xD := keepC hs xD
          replace yD := keepC hs yD
          replace xX := keepC hs xX
          replace yX := keepC hs yX
          replace uA := uA.below hs
          replace uB := uB.below hs
          replace uC := uC.below hs
          replace uD := uD.below hs
          replace uX := uX.below hs
          replace hB := from_ hB hs
          clear hb hal hs
          go_wp2_with fail
          refine (cmp_n (g := 1) Nxx.out Nyy.out E4.out b_xx b_yy uX uY).mono ?_
          rintro e w9 ⟨rfl, hb⟩
          replace a0 := keepC hb a0
          replace a1 := keepC hb a1
          replace b0 := keepC hb b0
          replace b1 := keepC hb b1
          replace e0 := keepC hb e0
          replace e1 := keepC hb e1
          replace xD := keepC hb xD
          replace yD := keepC hb yD
          replace xX := keepC hb xX
          replace yX := keepC hb yX
          replace xY := keepC hb xY
          replace yY := keepC hb yY
          replace uA := uA.below hb
          replace uB := uB.below hb
          replace uC := uC.below hb
          replace uD := uD.below hb
          replace uX := uX.below hb
          replace uY := uY.below hb
          replace hB := from_ hB hb
          clear hb
          clear xD yD uD
          clear xX yX uX
          clear xY yY uY
          go_wp2_with fail
          refine (wmul_n Na.out Nc.out Nu.out rfl b_a b_c uA uC).mono ?_
          rintro e w10 ⟨A10, c10, rfl, uU, hb⟩
          have hal : Below w10.heap.size w10 (w10.alloc (.cells #[.bool su, .slice A10 lu.length c10] 52)) := (Below.refl _ _).alloc (Nat.le_refl _) _
          replace uU := uU.below hal
          obtain ⟨xU, yU, _, _, _⟩ := Box.new w10 (.bool su) (.slice A10 lu.length c10) 52
          have hs := from_ hb hal
          replace a0 := keepC hs a0
          replace a1 := keepC hs a1
          replace b0 := keepC hs b0
          replace b1 := keepC hs b1
          replace e0 := keepC hs e0
          replace e1 := keepC hs e1
          replace uA := uA.below hs
          replace uB := uB.below hs
          replace uC := uC.below hs
          replace hB := from_ hB hs
          clear hb hal hs
          go_wp2_with fail
          refine (wmul_n Nb.out Nc.out Nv.out rfl b_b b_c uB uC).mono ?_
          rintro e w11 ⟨A11, c11, rfl, uV, hb⟩
          have hal : Below w11.heap.size w11 (w11.alloc (.cells #[.bool sv, .slice A11 lv.length c11] 52)) := (Below.refl _ _).alloc (Nat.le_refl _) _
          replace uV := uV.below hal
          obtain ⟨xV, yV, _, _, _⟩ := Box.new w11 (.bool sv) (.slice A11 lv.length c11) 52
          have hs := from_ hb hal
          replace a0 := keepC hs a0
          replace a1 := keepC hs a1
          replace b0 := keepC hs b0
          replace b1 := keepC hs b1
          replace e0 := keepC hs e0
          replace e1 := keepC hs e1
          replace xU := keepC hs xU
          replace yU := keepC hs yU
          replace uA := uA.below hs
          replace uB := uB.below hs
          replace uC := uC.below hs
          replace uU := uU.below hs
          replace hB := from_ hB hs
          clear hb hal hs
          go_wp2_with fail
          refine (cmp_n (g := 0) Nu.out Nv.out (E5.out.trans rfl) b_u b_v uU uV).mono ?_
          rintro e w12 ⟨rfl, hb⟩
          replace a0 := keepC hb a0
          replace a1 := keepC hb a1
          replace b0 := keepC hb b0
          replace b1 := keepC hb b1
          replace e0 := keepC hb e0
          replace e1 := keepC hb e1
          replace xU := keepC hb xU
          replace yU := keepC hb yU
          replace xV := keepC hb xV
          replace yV := keepC hb yV
          replace uA := uA.below hb
          replace uB := uB.below hb
          replace uC := uC.below hb
          replace uU := uU.below hb
          replace uV := uV.below hb
          replace hB := from_ hB hb
          clear hb
          go_wp2_with fail
          refine (same_q (q := false) E6.out uA uB).mono ?_
          rintro e w13 ⟨rfl, hb⟩
          replace a0 := keepC hb a0
          replace a1 := keepC hb a1
          replace b0 := keepC hb b0
          replace b1 := keepC hb b1
          replace e0 := keepC hb e0
          replace e1 := keepC hb e1
          replace xU := keepC hb xU
          replace yU := keepC hb yU
          replace xV := keepC hb xV
          replace yV := keepC hb yV
          replace uA := uA.below hb
          replace uB := uB.below hb
          replace uC := uC.below hb
          replace uU := uU.below hb
          replace uV := uV.below hb
          replace hB := from_ hB hb
          clear hb
          go_wp2
          go_ret
          exact ⟨rfl, hB⟩
        · go_enter Try.func12, Try.ntmps12
          go_wp2_with fail
          refine (alive5 _).mono ?_
          rintro e w1 ⟨rfl, hb⟩
          replace a0 := keepC hb a0
          replace a1 := keepC hb a1
          replace b0 := keepC hb b0
          replace b1 := keepC hb b1
          replace e0 := keepC hb e0
          replace e1 := keepC hb e1
          replace uA := uA.below hb
          replace uB := uB.below hb
          replace uC := uC.below hb
          replace hB := from_ hB hb
          clear hb
          go_wp2_with fail
          refine (cmp_n (g := 1) Na.out Nb.out E1.out b_a b_b uA uB).mono ?_
          rintro e w2 ⟨rfl, hb⟩
          replace a0 := keepC hb a0
          replace a1 := keepC hb a1
          replace b0 := keepC hb b0
          replace b1 := keepC hb b1
          replace e0 := keepC hb e0
          replace e1 := keepC hb e1
          replace uA := uA.below hb
          replace uB := uB.below hb
          replace uC := uC.below hb
          replace hB := from_ hB hb
          clear hb
          go_wp2_with fail
          refine (wsub_n Na.out Nb.out Nd.out rfl b_a b_b uA uB).mono ?_
          rintro e w3 ⟨A3, c3, rfl, uD, hb⟩
          have hal : Below w3.heap.size w3 (w3.alloc (.cells #[.bool sd, .slice A3 ld.length c3] 52)) := (Below.refl _ _).alloc (Nat.le_refl _) _
          replace uD := uD.below hal
          obtain ⟨xD, yD, _, _, _⟩ := Box.new w3 (.bool sd) (.slice A3 ld.length c3) 52
          have hs := from_ hb hal
          replace a0 := keepC hs a0
          replace a1 := keepC hs a1
          replace b0 := keepC hs b0
          replace b1 := keepC hs b1
          replace e0 := keepC hs e0
          replace e1 := keepC hs e1
          replace uA := uA.below hs
          replace uB := uB.below hs
          replace uC := uC.below hs
          replace hB := from_ hB hs
          clear hb hal hs
          go_wp2_with fail
          refine (sign_n (g := 1) Nc.out E2.out uC).mono ?_
          rintro e w4 ⟨rfl, hb⟩
          replace a0 := keepC hb a0
          replace a1 := keepC hb a1
          replace b0 := keepC hb b0
          replace b1 := keepC hb b1
          replace e0 := keepC hb e0
          replace e1 := keepC hb e1
          replace xD := keepC hb xD
          replace yD := keepC hb yD
          replace uA := uA.below hb
          replace uB := uB.below hb
          replace uC := uC.below hb
          replace uD := uD.below hb
          replace hB := from_ hB hb
          clear hb
          go_wp2_with fail
          refine (sign_n (g := 1) Nd.out E1.out uD).mono ?_
          rintro e w5 ⟨rfl, hb⟩
          replace a0 := keepC hb a0
          replace a1 := keepC hb a1
          replace b0 := keepC hb b0
          replace b1 := keepC hb b1
          replace e0 := keepC hb e0
          replace e1 := keepC hb e1
          replace xD := keepC hb xD
          replace yD := keepC hb yD
          replace uA := uA.below hb
          replace uB := uB.below hb
          replace uC := uC.below hb
          replace uD := uD.below hb
          replace hB := from_ hB hb
          clear hb
          go_wp2_with fail
          refine (cmp_n (g := -1) Nb.out Na.out E3.out b_b b_a uB uA).mono ?_
          rintro e w6 ⟨rfl, hb⟩
          replace a0 := keepC hb a0
          replace a1 := keepC hb a1
          replace b0 := keepC hb b0
          replace b1 := keepC hb b1
          replace e0 := keepC hb e0
          replace e1 := keepC hb e1
          replace xD := keepC hb xD
          replace yD := keepC hb yD
          replace uA := uA.below hb
          replace uB := uB.below hb
          replace uC := uC.below hb
          replace uD := uD.below hb
          replace hB := from_ hB hb
          clear hb
          go_wp2_with fail
          refine (wadd_n Na.out Nc.out Nxx.out rfl b_a b_c uA uC).mono ?_
          rintro e w7 ⟨A7, c7, rfl, uX, hb⟩
          have hal : Below w7.heap.size w7 (w7.alloc (.cells #[.bool sxx, .slice A7 lxx.length c7] 52)) := (Below.refl _ _).alloc (Nat.le_refl _) _
          replace uX := uX.below hal
          obtain ⟨xX, yX, _, _, _⟩ := Box.new w7 (.bool sxx) (.slice A7 lxx.length c7) 52
          have hs := from_ hb hal
          replace a0 := keepC hs a0
          replace a1 := keepC hs a1
          replace b0 := keepC hs b0
          replace b1 := keepC hs b1
          replace e0 := keepC hs e0
          replace e1 := keepC hs e1
          replace xD := keepC hs xD
          replace yD := keepC hs yD
          replace uA := uA.below hs
          replace uB := uB.below hs
          replace uC := uC.below hs
          replace uD := uD.below hs
          replace hB := from_ hB hs
          clear hb hal hs
          go_wp2_with fail
          refine (wadd_n Nb.out Nc.out Nyy.out rfl b_b b_c uB uC).mono ?_
          rintro e w8 ⟨A8, c8, rfl, uY, hb⟩
          have hal : Below w8.heap.size w8 (w8.alloc (.cells #[.bool syy, .slice A8 lyy.length c8] 52)) := (Below.refl _ _).alloc (Nat.le_refl _) _
          replace uY := uY.below hal
          obtain ⟨xY, yY, _, _, _⟩ := Box.new w8 (.bool syy) (.slice A8 lyy.length c8) 52
          have hs := from_ hb hal
          replace a0 := keepC hs a0
          replace a1 := keepC hs a1
          replace b0 := keepC hs b0
          replace b1 := keepC hs b1
          replace e0 := keepC hs e0
          replace e1 := keepC hs e1
          replace xD := keepC hs xD
          replace yD := keepC hs yD
          replace xX := keepC hs xX
          replace yX := keepC hs yX
          replace uA := uA.below hs
          replace uB := uB.below hs
          replace uC := uC.below hs
          replace uD := uD.below hs
          replace uX := uX.below hs
          replace hB := from_ hB hs
          clear hb hal hs
          go_wp2_with fail
          refine (cmp_n (g := 1) Nxx.out Nyy.out E4.out b_xx b_yy uX uY).mono ?_
          rintro e w9 ⟨rfl, hb⟩
          replace a0 := keepC hb a0
          replace a1 := keepC hb a1
          replace b0 := keepC hb b0
          replace b1 := keepC hb b1
          replace e0 := keepC hb e0
          replace e1 := keepC hb e1
          replace xD := keepC hb xD
          replace yD := keepC hb yD
          replace xX := keepC hb xX
          replace yX := keepC hb yX
          replace xY := keepC hb xY
          replace yY := keepC hb yY
          replace uA := uA.below hb
          replace uB := uB.below hb
          replace uC := uC.below hb
          replace uD := uD.below hb
          replace uX := uX.below hb
          replace uY := uY.below hb
          replace hB := from_ hB hb
          clear hb
          clear xD yD uD
          clear xX yX uX
          clear xY yY uY
          go_wp2_with fail
          refine (wmul_n Na.out Nc.out Nu.out rfl b_a b_c uA uC).mono ?_
          rintro e w10 ⟨A10, c10, rfl, uU, hb⟩
          have hal : Below w10.heap.size w10 (w10.alloc (.cells #[.bool su, .slice A10 lu.length c10] 52)) := (Below.refl _ _).alloc (Nat.le_refl _) _
          replace uU := uU.below hal
          obtain ⟨xU, yU, _, _, _⟩ := Box.new w10 (.bool su) (.slice A10 lu.length c10) 52
          have hs := from_ hb hal
          replace a0 := keepC hs a0
          replace a1 := keepC hs a1
          replace b0 := keepC hs b0
          replace b1 := keepC hs b1
          replace e0 := keepC hs e0
          replace e1 := keepC hs e1
          replace uA := uA.below hs
          replace uB := uB.below hs
          replace uC := uC.below hs
          replace hB := from_ hB hs
          clear hb hal hs
          go_wp2_with fail
          refine (wmul_n Nb.out Nc.out Nv.out rfl b_b b_c uB uC).mono ?_
          rintro e w11 ⟨A11, c11, rfl, uV, hb⟩
          have hal : Below w11.heap.size w11 (w11.alloc (.cells #[.bool sv, .slice A11 lv.length c11] 52)) := (Below.refl _ _).alloc (Nat.le_refl _) _
          replace uV := uV.below hal
          obtain ⟨xV, yV, _, _, _⟩ := Box.new w11 (.bool sv) (.slice A11 lv.length c11) 52
          have hs := from_ hb hal
          replace a0 := keepC hs a0
          replace a1 := keepC hs a1
          replace b0 := keepC hs b0
          replace b1 := keepC hs b1
          replace e0 := keepC hs e0
          replace e1 := keepC hs e1
          replace xU := keepC hs xU
          replace yU := keepC hs yU
          replace uA := uA.below hs
          replace uB := uB.below hs
          replace uC := uC.below hs
          replace uU := uU.below hs
          replace hB := from_ hB hs
          clear hb hal hs
          go_wp2_with fail
          refine (cmp_n (g := 1) Nu.out Nv.out (E5.out.trans rfl) b_u b_v uU uV).mono ?_
          rintro e w12 ⟨rfl, hb⟩
          replace a0 := keepC hb a0
          replace a1 := keepC hb a1
          replace b0 := keepC hb b0
          replace b1 := keepC hb b1
          replace e0 := keepC hb e0
          replace e1 := keepC hb e1
          replace xU := keepC hb xU
          replace yU := keepC hb yU
          replace xV := keepC hb xV
          replace yV := keepC hb yV
          replace uA := uA.below hb
          replace uB := uB.below hb
          replace uC := uC.below hb
          replace uU := uU.below hb
          replace uV := uV.below hb
          replace hB := from_ hB hb
          clear hb
          go_wp2_with fail
          refine (same_q (q := false) E6.out uA uB).mono ?_
          rintro e w13 ⟨rfl, hb⟩
          replace a0 := keepC hb a0
          replace a1 := keepC hb a1
          replace b0 := keepC hb b0
          replace b1 := keepC hb b1
          replace e0 := keepC hb e0
          replace e1 := keepC hb e1
          replace xU := keepC hb xU
          replace yU := keepC hb yU
          replace xV := keepC hb xV
          replace yV := keepC hb yV
          replace uA := uA.below hb
          replace uB := uB.below hb
          replace uC := uC.below hb
          replace uU := uU.below hb
          replace uV := uV.below hb
          replace hB := from_ hB hb
          clear hb
          go_wp2
          go_ret
          exact ⟨rfl, hB⟩
    · have On : Hid (¬ (okI s l = true ∧ okI t k = true)) := hok
      clear hok hsa hsb hsc
      go_enter Try.func12, Try.ntmps12
      go_wp2_with fail
      refine (alive5 _).mono ?_
      rintro e w1 ⟨rfl, hb⟩
      replace a0 := keepC hb a0
      replace a1 := keepC hb a1
      replace b0 := keepC hb b0
      replace b1 := keepC hb b1
      replace e0 := keepC hb e0
      replace e1 := keepC hb e1
      replace uA := uA.below hb
      replace uB := uB.below hb
      replace uC := uC.below hb
      replace hB := from_ hB hb
      clear hb
      go_wp2_with fail
      refine (ocmp_bad On.out g1 g2 uA uB).mono ?_
      rintro e w2 ⟨rfl, hb⟩
      replace a0 := keepC hb a0
      replace a1 := keepC hb a1
      replace b0 := keepC hb b0
      replace b1 := keepC hb b1
      replace e0 := keepC hb e0
      replace e1 := keepC hb e1
      replace uA := uA.below hb
      replace uB := uB.below hb
      replace uC := uC.below hb
      replace hB := from_ hB hb
      clear hb
      go_wp2_with fail
      refine (osub_bad On.out g1 g2 uA uB).mono ?_
      rintro e w3 ⟨A3, c3, rfl, uD, hb⟩
      have hal : Below w3.heap.size w3 (w3.alloc (.cells #[.bool false, .slice A3 0 c3] 52)) := (Below.refl _ _).alloc (Nat.le_refl _) _
      replace uD := uD.below hal
      obtain ⟨xD, yD, _, _, _⟩ := Box.new w3 (.bool false) (.slice A3 0 c3) 52
      have hs := from_ hb hal
      replace a0 := keepC hs a0
      replace a1 := keepC hs a1
      replace b0 := keepC hs b0
      replace b1 := keepC hs b1
      replace e0 := keepC hs e0
      replace e1 := keepC hs e1
      replace uA := uA.below hs
      replace uB := uB.below hs
      replace uC := uC.below hs
      replace hB := from_ hB hs
      clear hb hal hs
      go_wp2_with fail
      refine (sign_x uC).mono ?_
      rintro e wz ⟨⟨gz, hz, rfl⟩, hb⟩
      replace a0 := keepC hb a0
      replace a1 := keepC hb a1
      replace b0 := keepC hb b0
      replace b1 := keepC hb b1
      replace e0 := keepC hb e0
      replace e1 := keepC hb e1
      replace xD := keepC hb xD
      replace yD := keepC hb yD
      replace uA := uA.below hb
      replace uB := uB.below hb
      replace uC := uC.below hb
      replace uD := uD.below hb
      replace hB := from_ hB hb
      clear hb
      go_wp2
      go_ret
      exact ⟨rfl, hB⟩

end Go.Proofs.Ythdmfggcfkeenaa
