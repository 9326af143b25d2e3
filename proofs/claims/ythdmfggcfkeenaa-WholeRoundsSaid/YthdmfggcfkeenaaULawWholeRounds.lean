/-
  facetroomlaw05.WholeRounds, walked. No conditions.
-/
import Derived.Test.YthdmfggcfkeenaaUWhQ
import Derived.Test.YthdmfggcfkeenaaUWhJ
namespace Go.Proofs.Ythdmfggcfkeenaa
open Go.RowKit
set_option linter.unusedVariables false
set_option linter.unusedSimpArgs false

theorem rq_val {x y : Int} {d : Bool} (hr : x.natAbs % y.natAbs ≠ 0) : rq x y d = if (x < 0 ↔ y < 0) then ((x.natAbs / y.natAbs : Nat) : Int) + (if d = true then 0 else 1) else -((x.natAbs / y.natAbs : Nat) : Int) - (if d = true then 1 else 0) := by
  have hz : decide (0 < (limbs (x.natAbs % y.natAbs)).length) = true := decide_eq_true (by rw [len_pos]; omega)
  unfold rq tq
  rw [hz]
  generalize ((x.natAbs / y.natAbs : Nat) : Int) = q
  by_cases hx : x < 0 <;> by_cases hy : y < 0 <;> cases d <;> simp [hx, hy] <;> omega

/-- Quotients rounded: the plain law. -/
theorem rounds_plain {x y : Int} (hy : y ≠ 0) :
    (x.natAbs % y.natAbs = 0 ∧ x - rq x y true * y = 0 ∧ rq x y false = rq x y true ∧ -(rq (-x) y true) = rq x y true ∧ tq x y = rq x y true) ∨
    (x.natAbs % y.natAbs ≠ 0 ∧ sgn (x - rq x y true * y) = sgn y ∧ rq x y false = rq x y true + 1 ∧ -(rq (-x) y true) = rq x y true + 1 ∧ (x - rq x y true * y).natAbs < y.natAbs) := by
  have hn : 0 < y.natAbs := by omega
  have h1 := Nat.div_add_mod x.natAbs y.natAbs
  have h2 := Nat.mod_lt x.natAbs hn
  have h3 : (-x).natAbs = x.natAbs := Int.natAbs_neg x
  by_cases hr : x.natAbs % y.natAbs = 0
  · left
    unfold rq tq
    rw [h3]
    rw [hr] at h1 ⊢
    have hz : decide (0 < (limbs 0).length) = false := decide_eq_false (by rw [len_pos]; omega)
    rw [hz]
    simp only [Bool.false_and, Bool.false_eq_true, if_false]
    generalize x.natAbs / y.natAbs = q at *
    have h4 : ((y.natAbs * q + 0 : Nat) : Int) = (x.natAbs : Int) := by rw [h1]
    rw [Int.natCast_add, Int.natCast_mul] at h4
    by_cases hx : x < 0
    · have e1 : (x.natAbs : Int) = -x := by omega
      have hx2 : ¬ (-x < 0) := by omega
      by_cases hy2 : y < 0
      · have e2 : (y.natAbs : Int) = -y := by omega
        rw [e1, e2] at h4
        simp only [hx, hx2, hy2, decide_true, decide_false, if_true, if_false]
        refine ⟨by trivial, ?_, by trivial, ?_, by trivial⟩
        · rw [Int.neg_mul] at h4; rw [Int.mul_comm]; omega
        · rw [if_neg (by decide)]; omega
      · have e2 : (y.natAbs : Int) = y := by omega
        rw [e1, e2] at h4
        simp only [hx, hx2, hy2, decide_true, decide_false, if_true, if_false]
        refine ⟨by trivial, ?_, by trivial, ?_, by trivial⟩
        · rw [if_neg (by decide), Int.neg_mul, Int.mul_comm]; omega
        · rw [if_neg (by decide)]
    · by_cases hx0 : x = 0
      · subst hx0
        have hq : q = 0 := by
          rcases Nat.mul_eq_zero.1 (show y.natAbs * q = 0 by simpa using h1) with h | h
          · omega
          · exact h
        subst hq
        simp
      · have e1 : (x.natAbs : Int) = x := by omega
        have hx2 : -x < 0 := by omega
        by_cases hy2 : y < 0
        · have e2 : (y.natAbs : Int) = -y := by omega
          rw [e1, e2] at h4
          simp only [hx, hx2, hy2, decide_true, decide_false, if_true, if_false]
          refine ⟨by trivial, ?_, by trivial, ?_, by trivial⟩
          · rw [if_neg (by decide), Int.neg_mul, Int.mul_comm]; rw [Int.neg_mul] at h4; omega
          · rw [if_neg (by decide)]
        · have e2 : (y.natAbs : Int) = y := by omega
          rw [e1, e2] at h4
          simp only [hx, hx2, hy2, decide_true, decide_false, if_true, if_false]
          refine ⟨by trivial, ?_, by trivial, ?_, by trivial⟩
          · rw [Int.mul_comm]; omega
          · rw [if_neg (by decide)]; omega
  · right
    have hx0 : x ≠ 0 := by
      intro h
      subst h
      exact hr (by simp)
    have hr3 : (-x).natAbs % y.natAbs ≠ 0 := by rw [h3]; exact hr
    rw [rq_val hr, rq_val hr, rq_val hr3, h3]
    refine ⟨hr, ?_⟩
    generalize x.natAbs / y.natAbs = q at *
    generalize x.natAbs % y.natAbs = r at *
    have h4 : ((y.natAbs * q + r : Nat) : Int) = (x.natAbs : Int) := by rw [h1]
    rw [Int.natCast_add, Int.natCast_mul] at h4
    have sp : ∀ z : Int, 0 < z → sgn z = 1 := fun z hz => by unfold sgn; rw [if_neg (by omega), if_neg (by omega)]
    have sn : ∀ z : Int, z < 0 → sgn z = -1 := fun z hz => by unfold sgn; rw [if_neg (by omega), if_pos hz]
    simp only [if_true, Bool.false_eq_true, if_false]
    have k2 : (q : Int) * y = y * q := Int.mul_comm _ _
    have k4 : ((q : Int) + 0) * y = y * q := by rw [Int.add_zero]; exact k2
    have k3 : (-(q : Int) - 1) * y = -(y * q) - y := by rw [Int.sub_mul, Int.neg_mul, k2]; omega
    by_cases hx : x < 0
    · have e1 : (x.natAbs : Int) = -x := by omega
      by_cases hy2 : y < 0
      · have e2 : (y.natAbs : Int) = -y := by omega
        rw [e1, e2, Int.neg_mul] at h4
        rw [if_pos (show (x < 0 ↔ y < 0) by omega), if_pos (show (x < 0 ↔ y < 0) by omega), if_neg (show ¬ (-x < 0 ↔ y < 0) by omega), k4]
        refine ⟨?_, by omega, by omega, by omega⟩
        rw [sn y hy2, sn _ (by omega)]
      · have e2 : (y.natAbs : Int) = y := by omega
        rw [e1, e2] at h4
        rw [if_neg (show ¬ (x < 0 ↔ y < 0) by omega), if_neg (show ¬ (x < 0 ↔ y < 0) by omega), if_pos (show (-x < 0 ↔ y < 0) by omega), k3]
        refine ⟨?_, by omega, by omega, by omega⟩
        rw [sp y (by omega), sp _ (by omega)]
    · have e1 : (x.natAbs : Int) = x := by omega
      by_cases hy2 : y < 0
      · have e2 : (y.natAbs : Int) = -y := by omega
        rw [e1, e2, Int.neg_mul] at h4
        rw [if_neg (show ¬ (x < 0 ↔ y < 0) by omega), if_neg (show ¬ (x < 0 ↔ y < 0) by omega), if_pos (show (-x < 0 ↔ y < 0) by omega), k3]
        refine ⟨?_, by omega, by omega, by omega⟩
        rw [sn y hy2, sn _ (by omega)]
      · have e2 : (y.natAbs : Int) = y := by omega
        rw [e1, e2] at h4
        rw [if_pos (show (x < 0 ↔ y < 0) by omega), if_pos (show (x < 0 ↔ y < 0) by omega), if_neg (show ¬ (-x < 0 ↔ y < 0) by omega), k4]
        refine ⟨?_, by omega, by omega, by omega⟩
        rw [sp y (by omega), sp _ (by omega)]

theorem floor_n {w : World} {Z1 Z2 : Zone} {x y z : Int} {s t r : Bool} {l k m : List Nat} {A B : Option Addr} {c d : Nat} (h1 : Nm x s l) (h2 : Nm y t k) (h3 : Nm z r m) (hz : rq x y true = z) (hy : y ≠ 0) (hl : l.length ≤ 10000) (u1 : U64s w Z1 A c l) (u2 : U64s w Z2 B d k) :
    Calls Try.prog 57 #[.agg #[.bool s, .slice A l.length c], .agg #[.bool t, .slice B k.length d]] w fun e w' => ∃ Av cv, e = .returned (.tuple #[.agg #[.bool r, .slice Av m.length cv], .int .i64 0]) ∧ U64s w' (new w.heap.size) Av cv m ∧ Below w.heap.size w w' := by
  refine (wfloor_z (h1.isZ u1) (h2.isZ u2) hy (by rw [← h1.len]; exact hl)).mono ?_
  rintro e w' ⟨v, rfl, hv, hb⟩
  rw [hz] at hv
  obtain ⟨Av, cv, rfl, hu⟩ := h3.of hv
  exact ⟨Av, cv, rfl, hu, hb⟩

theorem ceil_n {w : World} {Z1 Z2 : Zone} {x y z : Int} {s t r : Bool} {l k m : List Nat} {A B : Option Addr} {c d : Nat} (h1 : Nm x s l) (h2 : Nm y t k) (h3 : Nm z r m) (hz : rq x y false = z) (hy : y ≠ 0) (hl : l.length ≤ 10000) (u1 : U64s w Z1 A c l) (u2 : U64s w Z2 B d k) :
    Calls Try.prog 58 #[.agg #[.bool s, .slice A l.length c], .agg #[.bool t, .slice B k.length d]] w fun e w' => ∃ Av cv, e = .returned (.tuple #[.agg #[.bool r, .slice Av m.length cv], .int .i64 0]) ∧ U64s w' (new w.heap.size) Av cv m ∧ Below w.heap.size w w' := by
  refine (wceil_z (h1.isZ u1) (h2.isZ u2) hy (by rw [← h1.len]; exact hl)).mono ?_
  rintro e w' ⟨v, rfl, hv, hb⟩
  rw [hz] at hv
  obtain ⟨Av, cv, rfl, hu⟩ := h3.of hv
  exact ⟨Av, cv, rfl, hu, hb⟩

theorem exact_n {w : World} {Z1 Z2 : Zone} {x y z : Int} {s t r : Bool} {l k m : List Nat} {A B : Option Addr} {c d : Nat} (h1 : Nm x s l) (h2 : Nm y t k) (h3 : Nm z r m) (hz : tq x y = z) (hy : y ≠ 0) (h0 : x.natAbs % y.natAbs = 0) (hl : l.length ≤ 10000) (u1 : U64s w Z1 A c l) (u2 : U64s w Z2 B d k) :
    Calls Try.prog 59 #[.agg #[.bool s, .slice A l.length c], .agg #[.bool t, .slice B k.length d]] w fun e w' => ∃ Av cv, e = .returned (.tuple #[.agg #[.bool r, .slice Av m.length cv], .int .i64 0]) ∧ U64s w' (new w.heap.size) Av cv m ∧ Below w.heap.size w w' := by
  refine (wexact_yes (h1.isZ u1) (h2.isZ u2) hy (by rw [← h1.len]; exact hl) h0).mono ?_
  rintro e w' ⟨v, rfl, hv, hb⟩
  rw [hz] at hv
  obtain ⟨Av, cv, rfl, hu⟩ := h3.of hv
  exact ⟨Av, cv, rfl, hu, hb⟩

theorem exact_none {w : World} {Z1 Z2 : Zone} {x y : Int} {s t : Bool} {l k : List Nat} {A B : Option Addr} {c d : Nat} (h1 : Nm x s l) (h2 : Nm y t k) (hy : y ≠ 0) (h0 : x.natAbs % y.natAbs ≠ 0) (hl : l.length ≤ 10000) (u1 : U64s w Z1 A c l) (u2 : U64s w Z2 B d k) :
    Calls Try.prog 59 #[.agg #[.bool s, .slice A l.length c], .agg #[.bool t, .slice B k.length d]] w fun e w' => ∃ Av cv, e = .returned (.tuple #[.agg #[.bool false, .slice Av 0 cv], .int .i64 6]) ∧ U64s w' (new w.heap.size) Av cv [] ∧ Below w.heap.size w w' := by
  refine (wexact_no (h1.isZ u1) (h2.isZ u2) hy (by rw [← h1.len]; exact hl) h0).mono ?_
  rintro e w' ⟨rfl, hb⟩
  exact ⟨none, 0, rfl, U64s.nil _ _, hb⟩

theorem int_n {w : World} {Z1 : Zone} {x : Int} {s : Bool} {l : List Nat} {A : Option Addr} {c : Nat} (h1 : Nm x s l) (hx : -9223372036854775808 ≤ x ∧ x ≤ 9223372036854775807) (u1 : U64s w Z1 A c l) :
    Calls Try.prog 48 #[.agg #[.bool s, .slice A l.length c]] w fun e w' => e = .returned (.tuple #[.int .i64 x, .int .i64 0]) ∧ Below w.heap.size w w' := wint_z (h1.isZ u1) hx

theorem Nm.abs {x : Int} {s : Bool} {l : List Nat} (h : Nm x s l) : Nm (x.natAbs : Int) false l := by
  refine ⟨(decide_eq_false (by omega)).symm, ?_⟩
  rw [h.2, Int.natAbs_natCast]

theorem sgn_below {x y : Int} (h : x.natAbs < y.natAbs) : sgn ((x.natAbs : Int) - (y.natAbs : Int)) = -1 := by
  unfold sgn
  rw [if_neg (by omega), if_pos (by omega)]

theorem len_rq (x y : Int) (d : Bool) : (limbs (rq x y d).natAbs).length ≤ (limbs x.natAbs).length + 1 := by
  have h : (rq x y d).natAbs ≤ x.natAbs + 1 := by
    have h1 : (tq x y).natAbs ≤ x.natAbs := by
      have h2 := Nat.div_le_self x.natAbs y.natAbs
      unfold tq
      generalize x.natAbs / y.natAbs = q at *
      split <;> omega
    unfold rq
    split
    · split <;> omega
    · omega
  have h2 := len_add x.natAbs 1
  have h3 : (limbs 1).length = 1 := by rw [limbs_one (by omega) (by omega)]; rfl
  by_cases h0 : x.natAbs = 0
  · rw [h0] at h ⊢
    exact Nat.le_trans (len_mono h) (by rw [Nat.zero_add, h3]; omega)
  · have := (len_pos (m := x.natAbs)).2 (by omega)
    exact Nat.le_trans (Nat.le_trans (len_mono h) h2) (by omega)

set_option maxRecDepth 100000 in
set_option maxHeartbeats 4000000 in
theorem lawWholeRounds {w : World} {Z1 Z2 : Zone} {a b : Value} {s t : Bool} {l k : List Nat} (ha : IsI w Z1 a s l) (hb : IsI w Z2 b t k) :
    Calls Try.prog 13 #[a, b] w fun e w' => e = .returned (.bool true) ∧ Below w.heap.size w w' := by
  obtain ⟨_, rfl, A, ca, rfl, hu⟩ := ha
  obtain ⟨_, rfl, B, cb, rfl, hv⟩ := hb
  obtain ⟨bA, bB, hB⟩ := boxes2 w (.bool s) (.slice A l.length ca) (.bool t) (.slice B k.length cb) 52
  obtain ⟨a0, a1, _, _, _⟩ := bA
  obtain ⟨b0, b1, _, _, _⟩ := bB
  have uA := hu.below hB
  have uB := hv.below hB
  have hsa := hu.small
  have hsb := hv.small
  clear hu hv
  rcases (show 50 < l.length ∨ (l.length ≤ 50 ∧ 50 < k.length) ∨ (l.length ≤ 50 ∧ k.length ≤ 50) by omega) with g1 | ⟨g1, g2⟩ | ⟨g1, g2⟩
  · have d0 : decide ((50 : Int) < (l.length : Int)) = true := decide_eq_true (by omega)
    clear uA uB hsa hsb
    go_enter Try.func13, Try.ntmps13
    go_wp2_with fail
    refine (alive5 _).mono ?_
    rintro e w1 ⟨rfl, hb⟩
    replace a0 := keepC hb a0
    replace a1 := keepC hb a1
    replace b0 := keepC hb b0
    replace b1 := keepC hb b1
    replace hB := from_ hB hb
    clear hb
    go_wp2
    go_ret
    exact ⟨rfl, hB⟩
  · have d0 : decide ((50 : Int) < (l.length : Int)) = false := decide_eq_false (by omega)
    have d1 : decide ((50 : Int) < (k.length : Int)) = true := decide_eq_true (by omega)
    clear uA uB hsa hsb
    go_enter Try.func13, Try.ntmps13
    go_wp2_with fail
    refine (alive5 _).mono ?_
    rintro e w1 ⟨rfl, hb⟩
    replace a0 := keepC hb a0
    replace a1 := keepC hb a1
    replace b0 := keepC hb b0
    replace b1 := keepC hb b1
    replace hB := from_ hB hb
    clear hb
    go_wp2
    go_ret
    exact ⟨rfl, hB⟩
  · have d0 : decide ((50 : Int) < (l.length : Int)) = false := decide_eq_false (by omega)
    have d1 : decide ((50 : Int) < (k.length : Int)) = false := decide_eq_false (by omega)
    by_cases hok : okI s l = true ∧ okI t k = true
    · obtain ⟨o1, o2⟩ := hok
      have na := Nm.ok o1 hsa
      have nb := Nm.ok o2 hsb
      by_cases hy : zof t k = 0
      · obtain ⟨rfl, rfl⟩ : t = false ∧ k = [] := by
          obtain ⟨h1, h2⟩ := nb
          rw [hy] at h1 h2
          exact ⟨h1.trans (by simp), h2.trans (limbs_eq_nil.2 rfl)⟩
        have hf : Hid (∀ w1 A c B d, U64s w1 old A c l → U64s w1 old B d [] → Calls Try.prog 57 #[.agg #[.bool s, .slice A l.length c], .agg #[.bool false, .slice B 0 d]] w1 (fun e w' => ∃ Av cv, e = .returned (.tuple #[.agg #[.bool false, .slice Av 0 cv], .int .i64 30]) ∧ U64s w' (new w1.heap.size) Av cv [] ∧ Below w1.heap.size w1 w')) := fun w1 A c B d u1 u2 => (round_zero o1 (by omega) u1 u2).1.mono fun e w' ⟨h1, h2⟩ => ⟨none, 0, h1, U64s.nil _ _, h2⟩
        have hg : Hid (∀ w1 A c B d, U64s w1 old A c l → U64s w1 old B d [] → Calls Try.prog 58 #[.agg #[.bool s, .slice A l.length c], .agg #[.bool false, .slice B 0 d]] w1 (fun e w' => ∃ Av cv, e = .returned (.tuple #[.agg #[.bool false, .slice Av 0 cv], .int .i64 30]) ∧ U64s w' (new w1.heap.size) Av cv [] ∧ Below w1.heap.size w1 w')) := fun w1 A c B d u1 u2 => (round_zero o1 (by omega) u1 u2).2.mono fun e w' ⟨h1, h2⟩ => ⟨none, 0, h1, U64s.nil _ _, h2⟩
        have d1 : decide ((50 : Int) < ((0 : Nat) : Int)) = false := by decide
        replace uA := uA.mono (le_old _)
        replace uB := uB.mono (le_old _)
        clear o1 o2 na nb hy hsa hsb
        go_enter Try.func13, Try.ntmps13
        go_wp2_with fail
        refine (alive5 _).mono ?_
        rintro e w1 ⟨rfl, hb⟩
        replace a0 := keepC hb a0
        replace a1 := keepC hb a1
        replace b0 := keepC hb b0
        replace b1 := keepC hb b1
        replace uA := uA.below hb
        replace uB := uB.below hb
        replace hB := from_ hB hb
        clear hb
        go_wp2_with fail
        refine (hf.out _ _ _ _ _ uA uB).mono ?_
        rintro e w2 ⟨A2, c2, rfl, uQ, hb⟩
        have hal : Below w2.heap.size w2 (w2.alloc (.cells #[.bool false, .slice A2 0 c2] 52)) := (Below.refl _ _).alloc (Nat.le_refl _) _
        replace uQ := uQ.below hal
        obtain ⟨xQ, yQ, _, _, _⟩ := Box.new w2 (.bool false) (.slice A2 0 c2) 52
        have hs := from_ hb hal
        replace a0 := keepC hs a0
        replace a1 := keepC hs a1
        replace b0 := keepC hs b0
        replace b1 := keepC hs b1
        replace uA := uA.below hs
        replace uB := uB.below hs
        replace hB := from_ hB hs
        clear hb hal hs
        go_wp2_with fail
        refine (hg.out _ _ _ _ _ uA uB).mono ?_
        rintro e w3 ⟨A3, c3, rfl, uU, hb⟩
        have hal : Below w3.heap.size w3 (w3.alloc (.cells #[.bool false, .slice A3 0 c3] 52)) := (Below.refl _ _).alloc (Nat.le_refl _) _
        replace uU := uU.below hal
        obtain ⟨xU, yU, _, _, _⟩ := Box.new w3 (.bool false) (.slice A3 0 c3) 52
        have hs := from_ hb hal
        replace a0 := keepC hs a0
        replace a1 := keepC hs a1
        replace b0 := keepC hs b0
        replace b1 := keepC hs b1
        replace xQ := keepC hs xQ
        replace yQ := keepC hs yQ
        replace uA := uA.below hs
        replace uB := uB.below hs
        replace uQ := uQ.below hs
        replace hB := from_ hB hs
        clear hb hal hs
        go_wp2
        go_ret
        exact ⟨rfl, hB⟩
      · have hpl := rounds_plain (x := zof s l) hy
        generalize zof s l = x at *
        generalize zof t k = y at *
        have la := na.len
        have lb := nb.len
        clear o1 o2 hsa hsb
        obtain ⟨q, hq⟩ : ∃ q, q = rq x y true := ⟨_, rfl⟩
        have q1 := len_rq x y true
        have q2 := len_rq x y false
        have q3 := len_rq (-x) y true
        have q9 : (limbs (-x).natAbs).length = (limbs x.natAbs).length := by rw [Int.natAbs_neg]
        have q4 := lz_mul q y
        have q5 : (limbs (x - q * y).natAbs).length ≤ max (limbs x.natAbs).length (limbs (q * y).natAbs).length + 1 := Nat.le_trans (len_mono (show (x - q * y).natAbs ≤ x.natAbs + (q * y).natAbs by omega)) (len_add _ _)
        obtain ⟨gt, hgt⟩ : ∃ g, g = sgn y := ⟨_, rfl⟩
        rw [← hq] at hpl q1
        rcases hpl with ⟨p0, p1, p2, p3, p4⟩ | ⟨p0, p1, p2, p3, p4⟩
        · rw [p2] at q2
          obtain ⟨sq, lq, nq⟩ : ∃ s l, Nm (q) s l := ⟨_, _, Nm.mk' _⟩
          have kq := nq.len
          obtain ⟨sp, lp, np⟩ : ∃ s l, Nm (q * y) s l := ⟨_, _, Nm.mk' _⟩
          have kp := np.len
          obtain ⟨sr, lr, nr⟩ : ∃ s l, Nm (x - q * y) s l := ⟨_, _, Nm.mk' _⟩
          have kr := nr.len
          obtain ⟨sng, lng, nng⟩ : ∃ s l, Nm (-x) s l := ⟨_, _, Nm.mk' _⟩
          have kng := nng.len
          obtain ⟨slo, llo, nlo⟩ : ∃ s l, Nm (rq (-x) y true) s l := ⟨_, _, Nm.mk' _⟩
          have klo := nlo.len
          have n0 : Nm 0 false [] := ⟨rfl, (limbs_eq_nil.2 rfl).symm⟩
          have n1 : Nm 1 false [1] := ⟨rfl, by rw [show (1 : Int).natAbs = 1 from rfl, limbs_one (by omega) (by omega)]⟩
          obtain ⟨rfl, rfl⟩ : sr = false ∧ lr = [] := by
            rw [p1] at nr
            exact ⟨nr.1.trans (by simp), nr.2.trans (limbs_eq_nil.2 rfl)⟩
          have p5 : sgn ((0 : Int) - (y.natAbs : Int)) = -1 := by unfold sgn; rw [if_neg (by omega), if_pos (by omega)]
          have p6 : x - q * y = 0 := p1
          have z8 : q - q = 0 := by omega
          have z1 : rq x y true = q := hq.symm
          have z2 : sgn y = gt := hgt.symm
          have nra := nr.abs
          have nba := nb.abs
          have b_a : l.length ≤ 90000 := by omega
          have b_b : k.length ≤ 90000 := by omega
          have b_q : lq.length ≤ 90000 := by omega
          have b_p : lp.length ≤ 90000 := by omega
          have b_r : ([] : List Nat).length ≤ 90000 := by simp
          have b_ng : lng.length ≤ 90000 := by omega
          have b_lo : llo.length ≤ 90000 := by omega
          have c_a : l.length ≤ 10000 := by omega
          have c_ng : lng.length ≤ 10000 := by omega
          have Hna := Lib.hid na
          have Hnb := Lib.hid nb
          have Hnra := Lib.hid nra
          have Hnba := Lib.hid nba
          have Hn0 := Lib.hid n0
          have Hn1 := Lib.hid n1
          have Hnq := Lib.hid nq
          have Hnp := Lib.hid np
          have Hnr := Lib.hid nr
          have Hnng := Lib.hid nng
          have Hnlo := Lib.hid nlo
          have Hp0 := Lib.hid p0
          have Hp1 := Lib.hid p1
          have Hp2 := Lib.hid p2
          have Hp3 := Lib.hid p3
          have Hp4 := Lib.hid p4
          have Hp5 := Lib.hid p5
          have Hz1 := Lib.hid z1
          have Hz2 := Lib.hid z2
          have Hz8 := Lib.hid z8
          have Hhy := Lib.hid hy
          have Hp6 := Lib.hid p6
          clear na nb nra nba n0 n1 nq np nr nng nlo p0 p1 p2 p3 p4 p5 z1 z2 z8 hy hq hgt la lb q1 q2 q3 q4 q5 q9 p6 kq kp kr kng klo
          go_enter Try.func13, Try.ntmps13
          go_wp2_with fail
          refine (alive5 _).mono ?_
          rintro e w1 ⟨rfl, hb⟩
          replace a0 := keepC hb a0
          replace a1 := keepC hb a1
          replace b0 := keepC hb b0
          replace b1 := keepC hb b1
          replace uA := uA.below hb
          replace uB := uB.below hb
          replace hB := from_ hB hb
          clear hb
          go_wp2_with fail
          refine (floor_n Hna.out Hnb.out Hnq.out Hz1.out Hhy.out c_a uA uB).mono ?_
          rintro e w2 ⟨A2, c2, rfl, uQ, hb⟩
          have hal : Below w2.heap.size w2 (w2.alloc (.cells #[.bool sq, .slice A2 lq.length c2] 52)) := (Below.refl _ _).alloc (Nat.le_refl _) _
          replace uQ := uQ.below hal
          obtain ⟨xQ, yQ, _, _, _⟩ := Box.new w2 (.bool sq) (.slice A2 lq.length c2) 52
          have hs := from_ hb hal
          replace a0 := keepC hs a0
          replace a1 := keepC hs a1
          replace b0 := keepC hs b0
          replace b1 := keepC hs b1
          replace uA := uA.below hs
          replace uB := uB.below hs
          replace hB := from_ hB hs
          clear hb hal hs
          go_wp2_with fail
          refine (wmul_n Hnq.out Hnb.out Hnp.out rfl b_q b_b uQ uB).mono ?_
          rintro e w3 ⟨A3, c3, rfl, uP, hb⟩
          have hal : Below w3.heap.size w3 (w3.alloc (.cells #[.bool sp, .slice A3 lp.length c3] 52)) := (Below.refl _ _).alloc (Nat.le_refl _) _
          replace uP := uP.below hal
          obtain ⟨xP, yP, _, _, _⟩ := Box.new w3 (.bool sp) (.slice A3 lp.length c3) 52
          have hs := from_ hb hal
          replace a0 := keepC hs a0
          replace a1 := keepC hs a1
          replace b0 := keepC hs b0
          replace b1 := keepC hs b1
          replace xQ := keepC hs xQ
          replace yQ := keepC hs yQ
          replace uA := uA.below hs
          replace uB := uB.below hs
          replace uQ := uQ.below hs
          replace hB := from_ hB hs
          clear hb hal hs
          go_wp2_with fail
          refine (wsub_n Hna.out Hnp.out Hnr.out rfl b_a b_p uA uP).mono ?_
          rintro e w4 ⟨A4, c4, rfl, uR, hb⟩
          have hal : Below w4.heap.size w4 (w4.alloc (.cells #[.bool false, .slice A4 0 c4] 52)) := (Below.refl _ _).alloc (Nat.le_refl _) _
          replace uR := uR.below hal
          obtain ⟨xR, yR, _, _, _⟩ := Box.new w4 (.bool false) (.slice A4 0 c4) 52
          have hs := from_ hb hal
          replace a0 := keepC hs a0
          replace a1 := keepC hs a1
          replace b0 := keepC hs b0
          replace b1 := keepC hs b1
          replace xQ := keepC hs xQ
          replace yQ := keepC hs yQ
          replace xP := keepC hs xP
          replace yP := keepC hs yP
          replace uA := uA.below hs
          replace uB := uB.below hs
          replace uQ := uQ.below hs
          replace uP := uP.below hs
          replace hB := from_ hB hs
          clear hb hal hs
          clear xP yP uP
          go_wp2_with fail
          refine (sign_n (l := []) Hnr.out (g := 0) (by rw [Hp6.out]; rfl) uR).mono ?_
          rintro e w5 ⟨rfl, hb⟩
          replace a0 := keepC hb a0
          replace a1 := keepC hb a1
          replace b0 := keepC hb b0
          replace b1 := keepC hb b1
          replace xQ := keepC hb xQ
          replace yQ := keepC hb yQ
          replace xR := keepC hb xR
          replace yR := keepC hb yR
          replace uA := uA.below hb
          replace uB := uB.below hb
          replace uQ := uQ.below hb
          replace uR := uR.below hb
          replace hB := from_ hB hb
          clear hb
          go_wp2_with fail
          refine (sign_n Hnb.out Hz2.out uB).mono ?_
          rintro e w6 ⟨rfl, hb⟩
          replace a0 := keepC hb a0
          replace a1 := keepC hb a1
          replace b0 := keepC hb b0
          replace b1 := keepC hb b1
          replace xQ := keepC hb xQ
          replace yQ := keepC hb yQ
          replace xR := keepC hb xR
          replace yR := keepC hb yR
          replace uA := uA.below hb
          replace uB := uB.below hb
          replace uQ := uQ.below hb
          replace uR := uR.below hb
          replace hB := from_ hB hb
          clear hb
          have hlt := lt_of_cell b1
          have hne : ¬ (w6.heap.size = w.heap.size + 1) := by
            have h1 : w.heap.size + 1 < w6.heap.size := hlt
            omega
          have hne2 : ¬ (w.heap.size + 1 = w6.heap.size) := by
            have h1 : w.heap.size + 1 < w6.heap.size := hlt
            omega
          go_wp2_with fail
          have hbw : Below w6.heap.size w6 ((w6.alloc (.cells #[.bool false, .slice A4 0 c4] 52)).alloc (.cells #[.bool false, .slice B k.length cb] 52)) := ((Below.refl _ _).alloc (Nat.le_refl _) _).alloc (by simp) _
          replace a0 := keepC hbw a0
          replace a1 := keepC hbw a1
          replace b0 := keepC hbw b0
          replace b1 := keepC hbw b1
          replace xQ := keepC hbw xQ
          replace yQ := keepC hbw yQ
          replace xR := keepC hbw xR
          replace yR := keepC hbw yR
          replace uA := uA.below hbw
          replace uB := uB.below hbw
          replace uQ := uQ.below hbw
          replace uR := uR.below hbw
          replace hB := from_ hB hbw
          clear hbw
          refine (cmp_n (l := []) Hn0.out Hnba.out Hp5.out b_r b_b uR uB).mono ?_
          rintro e w7 ⟨rfl, hb⟩
          replace a0 := keepC hb a0
          replace a1 := keepC hb a1
          replace b0 := keepC hb b0
          replace b1 := keepC hb b1
          replace xQ := keepC hb xQ
          replace yQ := keepC hb yQ
          replace xR := keepC hb xR
          replace yR := keepC hb yR
          replace uA := uA.below hb
          replace uB := uB.below hb
          replace uQ := uQ.below hb
          replace uR := uR.below hb
          replace hB := from_ hB hb
          clear hb
          go_wp2_with fail
          refine (ceil_n Hna.out Hnb.out Hnq.out Hp2.out Hhy.out c_a uA uB).mono ?_
          rintro e w8 ⟨A8, c8, rfl, uUP, hb⟩
          have hal : Below w8.heap.size w8 (w8.alloc (.cells #[.bool sq, .slice A8 lq.length c8] 52)) := (Below.refl _ _).alloc (Nat.le_refl _) _
          replace uUP := uUP.below hal
          obtain ⟨xUP, yUP, _, _, _⟩ := Box.new w8 (.bool sq) (.slice A8 lq.length c8) 52
          have hs := from_ hb hal
          replace a0 := keepC hs a0
          replace a1 := keepC hs a1
          replace b0 := keepC hs b0
          replace b1 := keepC hs b1
          replace xQ := keepC hs xQ
          replace yQ := keepC hs yQ
          replace xR := keepC hs xR
          replace yR := keepC hs yR
          replace uA := uA.below hs
          replace uB := uB.below hs
          replace uQ := uQ.below hs
          replace uR := uR.below hs
          replace hB := from_ hB hs
          clear hb hal hs
          go_wp2_with fail
          refine (wneg_n Hna.out Hnng.out rfl b_a uA).mono ?_
          rintro e w9 ⟨A9, c9, rfl, uNG, hb⟩
          have hal : Below w9.heap.size w9 (w9.alloc (.cells #[.bool sng, .slice A9 lng.length c9] 52)) := (Below.refl _ _).alloc (Nat.le_refl _) _
          replace uNG := uNG.below hal
          obtain ⟨xNG, yNG, _, _, _⟩ := Box.new w9 (.bool sng) (.slice A9 lng.length c9) 52
          have hs := from_ hb hal
          replace a0 := keepC hs a0
          replace a1 := keepC hs a1
          replace b0 := keepC hs b0
          replace b1 := keepC hs b1
          replace xQ := keepC hs xQ
          replace yQ := keepC hs yQ
          replace xR := keepC hs xR
          replace yR := keepC hs yR
          replace xUP := keepC hs xUP
          replace yUP := keepC hs yUP
          replace uA := uA.below hs
          replace uB := uB.below hs
          replace uQ := uQ.below hs
          replace uR := uR.below hs
          replace uUP := uUP.below hs
          replace hB := from_ hB hs
          clear hb hal hs
          go_wp2_with fail
          refine (floor_n Hnng.out Hnb.out Hnlo.out rfl Hhy.out c_ng uNG uB).mono ?_
          rintro e w10 ⟨A10, c10, rfl, uLO, hb⟩
          have hal : Below w10.heap.size w10 (w10.alloc (.cells #[.bool slo, .slice A10 llo.length c10] 52)) := (Below.refl _ _).alloc (Nat.le_refl _) _
          replace uLO := uLO.below hal
          obtain ⟨xLO, yLO, _, _, _⟩ := Box.new w10 (.bool slo) (.slice A10 llo.length c10) 52
          have hs := from_ hb hal
          replace a0 := keepC hs a0
          replace a1 := keepC hs a1
          replace b0 := keepC hs b0
          replace b1 := keepC hs b1
          replace xQ := keepC hs xQ
          replace yQ := keepC hs yQ
          replace xR := keepC hs xR
          replace yR := keepC hs yR
          replace xUP := keepC hs xUP
          replace yUP := keepC hs yUP
          replace xNG := keepC hs xNG
          replace yNG := keepC hs yNG
          replace uA := uA.below hs
          replace uB := uB.below hs
          replace uQ := uQ.below hs
          replace uR := uR.below hs
          replace uUP := uUP.below hs
          replace uNG := uNG.below hs
          replace hB := from_ hB hs
          clear hb hal hs
          go_wp2_with fail
          refine (wneg_n Hnlo.out Hnq.out Hp3.out b_lo uLO).mono ?_
          rintro e w11 ⟨A11, c11, rfl, uTU, hb⟩
          have hal : Below w11.heap.size w11 (w11.alloc (.cells #[.bool sq, .slice A11 lq.length c11] 52)) := (Below.refl _ _).alloc (Nat.le_refl _) _
          replace uTU := uTU.below hal
          obtain ⟨xTU, yTU, _, _, _⟩ := Box.new w11 (.bool sq) (.slice A11 lq.length c11) 52
          have hs := from_ hb hal
          replace a0 := keepC hs a0
          replace a1 := keepC hs a1
          replace b0 := keepC hs b0
          replace b1 := keepC hs b1
          replace xQ := keepC hs xQ
          replace yQ := keepC hs yQ
          replace xR := keepC hs xR
          replace yR := keepC hs yR
          replace xUP := keepC hs xUP
          replace yUP := keepC hs yUP
          replace xNG := keepC hs xNG
          replace yNG := keepC hs yNG
          replace xLO := keepC hs xLO
          replace yLO := keepC hs yLO
          replace uA := uA.below hs
          replace uB := uB.below hs
          replace uQ := uQ.below hs
          replace uR := uR.below hs
          replace uUP := uUP.below hs
          replace uNG := uNG.below hs
          replace uLO := uLO.below hs
          replace hB := from_ hB hs
          clear hb hal hs
          clear xNG yNG uNG
          clear xLO yLO uLO
          go_wp2_with fail
          refine (exact_n Hna.out Hnb.out Hnq.out Hp4.out Hhy.out Hp0.out c_a uA uB).mono ?_
          rintro e w12 ⟨A12, c12, rfl, uX, hb⟩
          have hal : Below w12.heap.size w12 (w12.alloc (.cells #[.bool sq, .slice A12 lq.length c12] 52)) := (Below.refl _ _).alloc (Nat.le_refl _) _
          replace uX := uX.below hal
          obtain ⟨xX, yX, _, _, _⟩ := Box.new w12 (.bool sq) (.slice A12 lq.length c12) 52
          have hs := from_ hb hal
          replace a0 := keepC hs a0
          replace a1 := keepC hs a1
          replace b0 := keepC hs b0
          replace b1 := keepC hs b1
          replace xQ := keepC hs xQ
          replace yQ := keepC hs yQ
          replace xR := keepC hs xR
          replace yR := keepC hs yR
          replace xUP := keepC hs xUP
          replace yUP := keepC hs yUP
          replace xTU := keepC hs xTU
          replace yTU := keepC hs yTU
          replace uA := uA.below hs
          replace uB := uB.below hs
          replace uQ := uQ.below hs
          replace uR := uR.below hs
          replace uUP := uUP.below hs
          replace uTU := uTU.below hs
          replace hB := from_ hB hs
          clear hb hal hs
          go_wp2_with fail
          refine (wsub_n Hnq.out Hnq.out Hn0.out Hz8.out b_q b_q uUP uQ).mono ?_
          rintro e w13 ⟨A13, c13, rfl, uON, hb⟩
          have hal : Below w13.heap.size w13 (w13.alloc (.cells #[.bool false, .slice A13 0 c13] 52)) := (Below.refl _ _).alloc (Nat.le_refl _) _
          replace uON := uON.below hal
          obtain ⟨xON, yON, _, _, _⟩ := Box.new w13 (.bool false) (.slice A13 0 c13) 52
          have hs := from_ hb hal
          replace a0 := keepC hs a0
          replace a1 := keepC hs a1
          replace b0 := keepC hs b0
          replace b1 := keepC hs b1
          replace xQ := keepC hs xQ
          replace yQ := keepC hs yQ
          replace xR := keepC hs xR
          replace yR := keepC hs yR
          replace xUP := keepC hs xUP
          replace yUP := keepC hs yUP
          replace xTU := keepC hs xTU
          replace yTU := keepC hs yTU
          replace xX := keepC hs xX
          replace yX := keepC hs yX
          replace uA := uA.below hs
          replace uB := uB.below hs
          replace uQ := uQ.below hs
          replace uR := uR.below hs
          replace uUP := uUP.below hs
          replace uTU := uTU.below hs
          replace uX := uX.below hs
          replace hB := from_ hB hs
          clear hb hal hs
          go_wp2_with fail
          refine (int_n (l := []) Hn0.out (by omega) uON).mono ?_
          rintro e w14 ⟨rfl, hb⟩
          replace a0 := keepC hb a0
          replace a1 := keepC hb a1
          replace b0 := keepC hb b0
          replace b1 := keepC hb b1
          replace xQ := keepC hb xQ
          replace yQ := keepC hb yQ
          replace xR := keepC hb xR
          replace yR := keepC hb yR
          replace xUP := keepC hb xUP
          replace yUP := keepC hb yUP
          replace xTU := keepC hb xTU
          replace yTU := keepC hb yTU
          replace xX := keepC hb xX
          replace yX := keepC hb yX
          replace xON := keepC hb xON
          replace yON := keepC hb yON
          replace uA := uA.below hb
          replace uB := uB.below hb
          replace uQ := uQ.below hb
          replace uR := uR.below hb
          replace uUP := uUP.below hb
          replace uTU := uTU.below hb
          replace uX := uX.below hb
          replace uON := uON.below hb
          replace hB := from_ hB hb
          clear hb
          go_wp2_with fail
          refine (same_n uUP uTU).mono ?_
          rintro e w15 ⟨rfl, hb⟩
          replace a0 := keepC hb a0
          replace a1 := keepC hb a1
          replace b0 := keepC hb b0
          replace b1 := keepC hb b1
          replace xQ := keepC hb xQ
          replace yQ := keepC hb yQ
          replace xR := keepC hb xR
          replace yR := keepC hb yR
          replace xUP := keepC hb xUP
          replace yUP := keepC hb yUP
          replace xTU := keepC hb xTU
          replace yTU := keepC hb yTU
          replace xX := keepC hb xX
          replace yX := keepC hb yX
          replace xON := keepC hb xON
          replace yON := keepC hb yON
          replace uA := uA.below hb
          replace uB := uB.below hb
          replace uQ := uQ.below hb
          replace uR := uR.below hb
          replace uUP := uUP.below hb
          replace uTU := uTU.below hb
          replace uX := uX.below hb
          replace uON := uON.below hb
          replace hB := from_ hB hb
          clear hb
          go_wp2_with fail
          refine (same_n uX uQ).mono ?_
          rintro e w16 ⟨rfl, hb⟩
          replace a0 := keepC hb a0
          replace a1 := keepC hb a1
          replace b0 := keepC hb b0
          replace b1 := keepC hb b1
          replace xQ := keepC hb xQ
          replace yQ := keepC hb yQ
          replace xR := keepC hb xR
          replace yR := keepC hb yR
          replace xUP := keepC hb xUP
          replace yUP := keepC hb yUP
          replace xTU := keepC hb xTU
          replace yTU := keepC hb yTU
          replace xX := keepC hb xX
          replace yX := keepC hb yX
          replace xON := keepC hb xON
          replace yON := keepC hb yON
          replace uA := uA.below hb
          replace uB := uB.below hb
          replace uQ := uQ.below hb
          replace uR := uR.below hb
          replace uUP := uUP.below hb
          replace uTU := uTU.below hb
          replace uX := uX.below hb
          replace uON := uON.below hb
          replace hB := from_ hB hb
          clear hb
          go_wp2
          go_ret
          exact ⟨rfl, hB⟩
        · rw [p2] at q2
          rw [← hgt] at p1
          have p5 := sgn_below p4
          obtain ⟨sq, lq, nq⟩ : ∃ s l, Nm (q) s l := ⟨_, _, Nm.mk' _⟩
          have kq := nq.len
          obtain ⟨sp, lp, np⟩ : ∃ s l, Nm (q * y) s l := ⟨_, _, Nm.mk' _⟩
          have kp := np.len
          obtain ⟨sr, lr, nr⟩ : ∃ s l, Nm (x - q * y) s l := ⟨_, _, Nm.mk' _⟩
          have kr := nr.len
          obtain ⟨sng, lng, nng⟩ : ∃ s l, Nm (-x) s l := ⟨_, _, Nm.mk' _⟩
          have kng := nng.len
          obtain ⟨slo, llo, nlo⟩ : ∃ s l, Nm (rq (-x) y true) s l := ⟨_, _, Nm.mk' _⟩
          have klo := nlo.len
          obtain ⟨sup, lup, nup⟩ : ∃ s l, Nm (q + 1) s l := ⟨_, _, Nm.mk' _⟩
          have kup := nup.len
          have n0 : Nm 0 false [] := ⟨rfl, (limbs_eq_nil.2 rfl).symm⟩
          have n1 : Nm 1 false [1] := ⟨rfl, by rw [show (1 : Int).natAbs = 1 from rfl, limbs_one (by omega) (by omega)]⟩
          have z8 : q + 1 - q = 1 := by omega
          have z1 : rq x y true = q := hq.symm
          have z2 : sgn y = gt := hgt.symm
          have nra := nr.abs
          have nba := nb.abs
          have b_a : l.length ≤ 90000 := by omega
          have b_b : k.length ≤ 90000 := by omega
          have b_q : lq.length ≤ 90000 := by omega
          have b_p : lp.length ≤ 90000 := by omega
          have b_r : lr.length ≤ 90000 := by omega
          have b_ng : lng.length ≤ 90000 := by omega
          have b_lo : llo.length ≤ 90000 := by omega
          have b_up : lup.length ≤ 90000 := by omega
          have c_a : l.length ≤ 10000 := by omega
          have c_ng : lng.length ≤ 10000 := by omega
          have Hna := Lib.hid na
          have Hnb := Lib.hid nb
          have Hnra := Lib.hid nra
          have Hnba := Lib.hid nba
          have Hn0 := Lib.hid n0
          have Hn1 := Lib.hid n1
          have Hnq := Lib.hid nq
          have Hnp := Lib.hid np
          have Hnr := Lib.hid nr
          have Hnng := Lib.hid nng
          have Hnlo := Lib.hid nlo
          have Hnup := Lib.hid nup
          have Hp0 := Lib.hid p0
          have Hp1 := Lib.hid p1
          have Hp2 := Lib.hid p2
          have Hp3 := Lib.hid p3
          have Hp4 := Lib.hid p4
          have Hp5 := Lib.hid p5
          have Hz1 := Lib.hid z1
          have Hz2 := Lib.hid z2
          have Hz8 := Lib.hid z8
          have Hhy := Lib.hid hy
          clear na nb nra nba n0 n1 nq np nr nng nlo nup p0 p1 p2 p3 p4 p5 z1 z2 z8 hy hq hgt la lb q1 q2 q3 q4 q5 q9 kq kp kr kng klo kup
          have d5 : gt = 1 ∨ gt = -1 := by
            have h1 := Hz2.out
            have h2 := Hhy.out
            unfold sgn at h1
            rw [if_neg h2] at h1
            split at h1 <;> omega
          rcases d5 with rfl | rfl
          all_goals
            go_enter Try.func13, Try.ntmps13
            go_wp2_with fail
            refine (alive5 _).mono ?_
            rintro e w1 ⟨rfl, hb⟩
            replace a0 := keepC hb a0
            replace a1 := keepC hb a1
            replace b0 := keepC hb b0
            replace b1 := keepC hb b1
            replace uA := uA.below hb
            replace uB := uB.below hb
            replace hB := from_ hB hb
            clear hb
            go_wp2_with fail
            refine (floor_n Hna.out Hnb.out Hnq.out Hz1.out Hhy.out c_a uA uB).mono ?_
            rintro e w2 ⟨A2, c2, rfl, uQ, hb⟩
            have hal : Below w2.heap.size w2 (w2.alloc (.cells #[.bool sq, .slice A2 lq.length c2] 52)) := (Below.refl _ _).alloc (Nat.le_refl _) _
            replace uQ := uQ.below hal
            obtain ⟨xQ, yQ, _, _, _⟩ := Box.new w2 (.bool sq) (.slice A2 lq.length c2) 52
            have hs := from_ hb hal
            replace a0 := keepC hs a0
            replace a1 := keepC hs a1
            replace b0 := keepC hs b0
            replace b1 := keepC hs b1
            replace uA := uA.below hs
            replace uB := uB.below hs
            replace hB := from_ hB hs
            clear hb hal hs
            go_wp2_with fail
            refine (wmul_n Hnq.out Hnb.out Hnp.out rfl b_q b_b uQ uB).mono ?_
            rintro e w3 ⟨A3, c3, rfl, uP, hb⟩
            have hal : Below w3.heap.size w3 (w3.alloc (.cells #[.bool sp, .slice A3 lp.length c3] 52)) := (Below.refl _ _).alloc (Nat.le_refl _) _
            replace uP := uP.below hal
            obtain ⟨xP, yP, _, _, _⟩ := Box.new w3 (.bool sp) (.slice A3 lp.length c3) 52
            have hs := from_ hb hal
            replace a0 := keepC hs a0
            replace a1 := keepC hs a1
            replace b0 := keepC hs b0
            replace b1 := keepC hs b1
            replace xQ := keepC hs xQ
            replace yQ := keepC hs yQ
            replace uA := uA.below hs
            replace uB := uB.below hs
            replace uQ := uQ.below hs
            replace hB := from_ hB hs
            clear hb hal hs
            go_wp2_with fail
            refine (wsub_n Hna.out Hnp.out Hnr.out rfl b_a b_p uA uP).mono ?_
            rintro e w4 ⟨A4, c4, rfl, uR, hb⟩
            have hal : Below w4.heap.size w4 (w4.alloc (.cells #[.bool sr, .slice A4 lr.length c4] 52)) := (Below.refl _ _).alloc (Nat.le_refl _) _
            replace uR := uR.below hal
            obtain ⟨xR, yR, _, _, _⟩ := Box.new w4 (.bool sr) (.slice A4 lr.length c4) 52
            have hs := from_ hb hal
            replace a0 := keepC hs a0
            replace a1 := keepC hs a1
            replace b0 := keepC hs b0
            replace b1 := keepC hs b1
            replace xQ := keepC hs xQ
            replace yQ := keepC hs yQ
            replace xP := keepC hs xP
            replace yP := keepC hs yP
            replace uA := uA.below hs
            replace uB := uB.below hs
            replace uQ := uQ.below hs
            replace uP := uP.below hs
            replace hB := from_ hB hs
            clear hb hal hs
            clear xP yP uP
            go_wp2_with fail
            refine (sign_n Hnr.out Hp1.out uR).mono ?_
            rintro e w5 ⟨rfl, hb⟩
            replace a0 := keepC hb a0
            replace a1 := keepC hb a1
            replace b0 := keepC hb b0
            replace b1 := keepC hb b1
            replace xQ := keepC hb xQ
            replace yQ := keepC hb yQ
            replace xR := keepC hb xR
            replace yR := keepC hb yR
            replace uA := uA.below hb
            replace uB := uB.below hb
            replace uQ := uQ.below hb
            replace uR := uR.below hb
            replace hB := from_ hB hb
            clear hb
            go_wp2_with fail
            refine (sign_n Hnb.out Hz2.out uB).mono ?_
            rintro e w6 ⟨rfl, hb⟩
            replace a0 := keepC hb a0
            replace a1 := keepC hb a1
            replace b0 := keepC hb b0
            replace b1 := keepC hb b1
            replace xQ := keepC hb xQ
            replace yQ := keepC hb yQ
            replace xR := keepC hb xR
            replace yR := keepC hb yR
            replace uA := uA.below hb
            replace uB := uB.below hb
            replace uQ := uQ.below hb
            replace uR := uR.below hb
            replace hB := from_ hB hb
            clear hb
            have hlt := lt_of_cell b1
            have hne : ¬ (w6.heap.size = w.heap.size + 1) := by
              have h1 : w.heap.size + 1 < w6.heap.size := hlt
              omega
            have hne2 : ¬ (w.heap.size + 1 = w6.heap.size) := by
              have h1 : w.heap.size + 1 < w6.heap.size := hlt
              omega
            go_wp2_with fail
            have hbw : Below w6.heap.size w6 ((w6.alloc (.cells #[.bool false, .slice A4 lr.length c4] 52)).alloc (.cells #[.bool false, .slice B k.length cb] 52)) := ((Below.refl _ _).alloc (Nat.le_refl _) _).alloc (by simp) _
            replace a0 := keepC hbw a0
            replace a1 := keepC hbw a1
            replace b0 := keepC hbw b0
            replace b1 := keepC hbw b1
            replace xQ := keepC hbw xQ
            replace yQ := keepC hbw yQ
            replace xR := keepC hbw xR
            replace yR := keepC hbw yR
            replace uA := uA.below hbw
            replace uB := uB.below hbw
            replace uQ := uQ.below hbw
            replace uR := uR.below hbw
            replace hB := from_ hB hbw
            clear hbw
            refine (cmp_n Hnra.out Hnba.out Hp5.out b_r b_b uR uB).mono ?_
            rintro e w7 ⟨rfl, hb⟩
            replace a0 := keepC hb a0
            replace a1 := keepC hb a1
            replace b0 := keepC hb b0
            replace b1 := keepC hb b1
            replace xQ := keepC hb xQ
            replace yQ := keepC hb yQ
            replace xR := keepC hb xR
            replace yR := keepC hb yR
            replace uA := uA.below hb
            replace uB := uB.below hb
            replace uQ := uQ.below hb
            replace uR := uR.below hb
            replace hB := from_ hB hb
            clear hb
            go_wp2_with fail
            refine (ceil_n Hna.out Hnb.out Hnup.out Hp2.out Hhy.out c_a uA uB).mono ?_
            rintro e w8 ⟨A8, c8, rfl, uUP, hb⟩
            have hal : Below w8.heap.size w8 (w8.alloc (.cells #[.bool sup, .slice A8 lup.length c8] 52)) := (Below.refl _ _).alloc (Nat.le_refl _) _
            replace uUP := uUP.below hal
            obtain ⟨xUP, yUP, _, _, _⟩ := Box.new w8 (.bool sup) (.slice A8 lup.length c8) 52
            have hs := from_ hb hal
            replace a0 := keepC hs a0
            replace a1 := keepC hs a1
            replace b0 := keepC hs b0
            replace b1 := keepC hs b1
            replace xQ := keepC hs xQ
            replace yQ := keepC hs yQ
            replace xR := keepC hs xR
            replace yR := keepC hs yR
            replace uA := uA.below hs
            replace uB := uB.below hs
            replace uQ := uQ.below hs
            replace uR := uR.below hs
            replace hB := from_ hB hs
            clear hb hal hs
            go_wp2_with fail
            refine (wneg_n Hna.out Hnng.out rfl b_a uA).mono ?_
            rintro e w9 ⟨A9, c9, rfl, uNG, hb⟩
            have hal : Below w9.heap.size w9 (w9.alloc (.cells #[.bool sng, .slice A9 lng.length c9] 52)) := (Below.refl _ _).alloc (Nat.le_refl _) _
            replace uNG := uNG.below hal
            obtain ⟨xNG, yNG, _, _, _⟩ := Box.new w9 (.bool sng) (.slice A9 lng.length c9) 52
            have hs := from_ hb hal
            replace a0 := keepC hs a0
            replace a1 := keepC hs a1
            replace b0 := keepC hs b0
            replace b1 := keepC hs b1
            replace xQ := keepC hs xQ
            replace yQ := keepC hs yQ
            replace xR := keepC hs xR
            replace yR := keepC hs yR
            replace xUP := keepC hs xUP
            replace yUP := keepC hs yUP
            replace uA := uA.below hs
            replace uB := uB.below hs
            replace uQ := uQ.below hs
            replace uR := uR.below hs
            replace uUP := uUP.below hs
            replace hB := from_ hB hs
            clear hb hal hs
            go_wp2_with fail
            refine (floor_n Hnng.out Hnb.out Hnlo.out rfl Hhy.out c_ng uNG uB).mono ?_
            rintro e w10 ⟨A10, c10, rfl, uLO, hb⟩
            have hal : Below w10.heap.size w10 (w10.alloc (.cells #[.bool slo, .slice A10 llo.length c10] 52)) := (Below.refl _ _).alloc (Nat.le_refl _) _
            replace uLO := uLO.below hal
            obtain ⟨xLO, yLO, _, _, _⟩ := Box.new w10 (.bool slo) (.slice A10 llo.length c10) 52
            have hs := from_ hb hal
            replace a0 := keepC hs a0
            replace a1 := keepC hs a1
            replace b0 := keepC hs b0
            replace b1 := keepC hs b1
            replace xQ := keepC hs xQ
            replace yQ := keepC hs yQ
            replace xR := keepC hs xR
            replace yR := keepC hs yR
            replace xUP := keepC hs xUP
            replace yUP := keepC hs yUP
            replace xNG := keepC hs xNG
            replace yNG := keepC hs yNG
            replace uA := uA.below hs
            replace uB := uB.below hs
            replace uQ := uQ.below hs
            replace uR := uR.below hs
            replace uUP := uUP.below hs
            replace uNG := uNG.below hs
            replace hB := from_ hB hs
            clear hb hal hs
            go_wp2_with fail
            refine (wneg_n Hnlo.out Hnup.out Hp3.out b_lo uLO).mono ?_
            rintro e w11 ⟨A11, c11, rfl, uTU, hb⟩
            have hal : Below w11.heap.size w11 (w11.alloc (.cells #[.bool sup, .slice A11 lup.length c11] 52)) := (Below.refl _ _).alloc (Nat.le_refl _) _
            replace uTU := uTU.below hal
            obtain ⟨xTU, yTU, _, _, _⟩ := Box.new w11 (.bool sup) (.slice A11 lup.length c11) 52
            have hs := from_ hb hal
            replace a0 := keepC hs a0
            replace a1 := keepC hs a1
            replace b0 := keepC hs b0
            replace b1 := keepC hs b1
            replace xQ := keepC hs xQ
            replace yQ := keepC hs yQ
            replace xR := keepC hs xR
            replace yR := keepC hs yR
            replace xUP := keepC hs xUP
            replace yUP := keepC hs yUP
            replace xNG := keepC hs xNG
            replace yNG := keepC hs yNG
            replace xLO := keepC hs xLO
            replace yLO := keepC hs yLO
            replace uA := uA.below hs
            replace uB := uB.below hs
            replace uQ := uQ.below hs
            replace uR := uR.below hs
            replace uUP := uUP.below hs
            replace uNG := uNG.below hs
            replace uLO := uLO.below hs
            replace hB := from_ hB hs
            clear hb hal hs
            clear xNG yNG uNG
            clear xLO yLO uLO
            go_wp2_with fail
            refine (exact_none Hna.out Hnb.out Hhy.out Hp0.out c_a uA uB).mono ?_
            rintro e w12 ⟨A12, c12, rfl, uX, hb⟩
            have hal : Below w12.heap.size w12 (w12.alloc (.cells #[.bool false, .slice A12 0 c12] 52)) := (Below.refl _ _).alloc (Nat.le_refl _) _
            replace uX := uX.below hal
            obtain ⟨xX, yX, _, _, _⟩ := Box.new w12 (.bool false) (.slice A12 0 c12) 52
            have hs := from_ hb hal
            replace a0 := keepC hs a0
            replace a1 := keepC hs a1
            replace b0 := keepC hs b0
            replace b1 := keepC hs b1
            replace xQ := keepC hs xQ
            replace yQ := keepC hs yQ
            replace xR := keepC hs xR
            replace yR := keepC hs yR
            replace xUP := keepC hs xUP
            replace yUP := keepC hs yUP
            replace xTU := keepC hs xTU
            replace yTU := keepC hs yTU
            replace uA := uA.below hs
            replace uB := uB.below hs
            replace uQ := uQ.below hs
            replace uR := uR.below hs
            replace uUP := uUP.below hs
            replace uTU := uTU.below hs
            replace hB := from_ hB hs
            clear hb hal hs
            go_wp2_with fail
            refine (wsub_n Hnup.out Hnq.out Hn1.out Hz8.out b_up b_q uUP uQ).mono ?_
            rintro e w13 ⟨A13, c13, rfl, uON, hb⟩
            have hal : Below w13.heap.size w13 (w13.alloc (.cells #[.bool false, .slice A13 1 c13] 52)) := (Below.refl _ _).alloc (Nat.le_refl _) _
            replace uON := uON.below hal
            obtain ⟨xON, yON, _, _, _⟩ := Box.new w13 (.bool false) (.slice A13 1 c13) 52
            have hs := from_ hb hal
            replace a0 := keepC hs a0
            replace a1 := keepC hs a1
            replace b0 := keepC hs b0
            replace b1 := keepC hs b1
            replace xQ := keepC hs xQ
            replace yQ := keepC hs yQ
            replace xR := keepC hs xR
            replace yR := keepC hs yR
            replace xUP := keepC hs xUP
            replace yUP := keepC hs yUP
            replace xTU := keepC hs xTU
            replace yTU := keepC hs yTU
            replace xX := keepC hs xX
            replace yX := keepC hs yX
            replace uA := uA.below hs
            replace uB := uB.below hs
            replace uQ := uQ.below hs
            replace uR := uR.below hs
            replace uUP := uUP.below hs
            replace uTU := uTU.below hs
            replace uX := uX.below hs
            replace hB := from_ hB hs
            clear hb hal hs
            go_wp2_with fail
            refine (int_n (l := [1]) Hn1.out (by omega) uON).mono ?_
            rintro e w14 ⟨rfl, hb⟩
            replace a0 := keepC hb a0
            replace a1 := keepC hb a1
            replace b0 := keepC hb b0
            replace b1 := keepC hb b1
            replace xQ := keepC hb xQ
            replace yQ := keepC hb yQ
            replace xR := keepC hb xR
            replace yR := keepC hb yR
            replace xUP := keepC hb xUP
            replace yUP := keepC hb yUP
            replace xTU := keepC hb xTU
            replace yTU := keepC hb yTU
            replace xX := keepC hb xX
            replace yX := keepC hb yX
            replace xON := keepC hb xON
            replace yON := keepC hb yON
            replace uA := uA.below hb
            replace uB := uB.below hb
            replace uQ := uQ.below hb
            replace uR := uR.below hb
            replace uUP := uUP.below hb
            replace uTU := uTU.below hb
            replace uX := uX.below hb
            replace uON := uON.below hb
            replace hB := from_ hB hb
            clear hb
            go_wp2_with fail
            refine (same_n uUP uTU).mono ?_
            rintro e w15 ⟨rfl, hb⟩
            replace a0 := keepC hb a0
            replace a1 := keepC hb a1
            replace b0 := keepC hb b0
            replace b1 := keepC hb b1
            replace xQ := keepC hb xQ
            replace yQ := keepC hb yQ
            replace xR := keepC hb xR
            replace yR := keepC hb yR
            replace xUP := keepC hb xUP
            replace yUP := keepC hb yUP
            replace xTU := keepC hb xTU
            replace yTU := keepC hb yTU
            replace xX := keepC hb xX
            replace yX := keepC hb yX
            replace xON := keepC hb xON
            replace yON := keepC hb yON
            replace uA := uA.below hb
            replace uB := uB.below hb
            replace uQ := uQ.below hb
            replace uR := uR.below hb
            replace uUP := uUP.below hb
            replace uTU := uTU.below hb
            replace uX := uX.below hb
            replace uON := uON.below hb
            replace hB := from_ hB hb
            clear hb
            go_wp2
            go_ret
            exact ⟨rfl, hB⟩
    · have hf : Hid (∀ w1 A c B d, U64s w1 old A c l → U64s w1 old B d k → Calls Try.prog 57 #[.agg #[.bool s, .slice A l.length c], .agg #[.bool t, .slice B k.length d]] w1 (fun e w' => ∃ Av cv, e = .returned (.tuple #[.agg #[.bool false, .slice Av 0 cv], .int .i64 8]) ∧ U64s w' (new w1.heap.size) Av cv [] ∧ Below w1.heap.size w1 w')) := fun w1 A c B d u1 u2 => (round_bad hok u1 u2).1.mono fun e w' ⟨h1, h2⟩ => ⟨none, 0, h1, U64s.nil _ _, h2⟩
      have hg : Hid (∀ w1 A c B d, U64s w1 old A c l → U64s w1 old B d k → Calls Try.prog 58 #[.agg #[.bool s, .slice A l.length c], .agg #[.bool t, .slice B k.length d]] w1 (fun e w' => ∃ Av cv, e = .returned (.tuple #[.agg #[.bool false, .slice Av 0 cv], .int .i64 8]) ∧ U64s w' (new w1.heap.size) Av cv [] ∧ Below w1.heap.size w1 w')) := fun w1 A c B d u1 u2 => (round_bad hok u1 u2).2.mono fun e w' ⟨h1, h2⟩ => ⟨none, 0, h1, U64s.nil _ _, h2⟩
      replace uA := uA.mono (le_old _)
      replace uB := uB.mono (le_old _)
      clear hok hsa hsb
      go_enter Try.func13, Try.ntmps13
      go_wp2_with fail
      refine (alive5 _).mono ?_
      rintro e w1 ⟨rfl, hb⟩
      replace a0 := keepC hb a0
      replace a1 := keepC hb a1
      replace b0 := keepC hb b0
      replace b1 := keepC hb b1
      replace uA := uA.below hb
      replace uB := uB.below hb
      replace hB := from_ hB hb
      clear hb
      go_wp2_with fail
      refine (hf.out _ _ _ _ _ uA uB).mono ?_
      rintro e w2 ⟨A2, c2, rfl, uQ, hb⟩
      have hal : Below w2.heap.size w2 (w2.alloc (.cells #[.bool false, .slice A2 0 c2] 52)) := (Below.refl _ _).alloc (Nat.le_refl _) _
      replace uQ := uQ.below hal
      obtain ⟨xQ, yQ, _, _, _⟩ := Box.new w2 (.bool false) (.slice A2 0 c2) 52
      have hs := from_ hb hal
      replace a0 := keepC hs a0
      replace a1 := keepC hs a1
      replace b0 := keepC hs b0
      replace b1 := keepC hs b1
      replace uA := uA.below hs
      replace uB := uB.below hs
      replace hB := from_ hB hs
      clear hb hal hs
      go_wp2_with fail
      refine (hg.out _ _ _ _ _ uA uB).mono ?_
      rintro e w3 ⟨A3, c3, rfl, uU, hb⟩
      have hal : Below w3.heap.size w3 (w3.alloc (.cells #[.bool false, .slice A3 0 c3] 52)) := (Below.refl _ _).alloc (Nat.le_refl _) _
      replace uU := uU.below hal
      obtain ⟨xU, yU, _, _, _⟩ := Box.new w3 (.bool false) (.slice A3 0 c3) 52
      have hs := from_ hb hal
      replace a0 := keepC hs a0
      replace a1 := keepC hs a1
      replace b0 := keepC hs b0
      replace b1 := keepC hs b1
      replace xQ := keepC hs xQ
      replace yQ := keepC hs yQ
      replace uA := uA.below hs
      replace uB := uB.below hs
      replace uQ := uQ.below hs
      replace hB := from_ hB hs
      clear hb hal hs
      go_wp2
      go_ret
      exact ⟨rfl, hB⟩

end Go.Proofs.Ythdmfggcfkeenaa
