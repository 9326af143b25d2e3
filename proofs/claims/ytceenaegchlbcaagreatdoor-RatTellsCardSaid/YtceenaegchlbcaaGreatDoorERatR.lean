/-
  Fractions: rat.Text; facetroomlaw06.of, tells, alive. The one premise: the table of powers of ten reads as it is laid.
  Fractions: facetroomref06.Great; rat.Check by name; three parameters' boxes. No conditions but bounds on lengths.
  Fractions: the plain law of RatOrder. No conditions.
  Fractions of the document: Div, Compared, Cmp, Floor, Ceil. No conditions but bounds on lengths.
-/
import Derived.Deep.RegionHeld3
import Derived.Test.YtceenaegchlbcaaGreatDoorERatP
import Derived.Test.YtceenaegchlbcaaGreatDoorEWhT
import Derived.Test.YtceenaegchlbcaaGreatDoorEGcdE
import Derived.Test.YtceenaegchlbcaaGreatDoorERatC
import Derived.Test.YtceenaegchlbcaaGreatDoorEFrameQ
import Derived.Test.YtceenaegchlbcaaGreatDoorERatQ
namespace Go.Proofs.YtceenaegchlbcaaGreatDoor
open Go.RowKit
set_option linter.unusedVariables false
set_option linter.unusedSimpArgs false

theorem wTxtT_len (s : Bool) (l : List Nat) : (wTxtT s l).length ≤ 4097 := by
  have := txtT_len l
  unfold wTxtT
  split
  · split
    · simp; omega
    · omega
  · simp

set_option maxRecDepth 100000 in
set_option maxHeartbeats 2000000 in
theorem rtext_q {w : World} {Z1 Z2 : Zone} {s : Bool} {l k : List Nat} {A B : Option Addr} {a b : Nat} {p : Rat} {str : List UInt8} (hp : NmQ p s l k) (e1 : wErrT s l = 0) (e2 : errT k = 0) (hst : wTxtT s l ++ (if k = [1] then [] else 47 :: txtT k) = str) (u1 : U64s w Z1 A a l) (u2 : U64s w Z2 B b k) (q1 : l.length ≤ 2000) (q2 : k.length ≤ 2000) (ht : Tab w) :
    Calls Tryz.prog 38 #[.agg #[.bool s, .slice A l.length a, .slice B k.length b]] w fun e w' => e = .returned (.tuple #[strV str, .int .i64 0]) ∧ Below w.heap.size w w' := by
  have hB := box_rat w (.bool s) (.slice A l.length a) (.slice B k.length b)
  obtain ⟨b0, b1, b2, _, _, _, _⟩ := Box3.new w (.bool s) (.slice A l.length a) (.slice B k.length b) 48
  have hck := ratcheck_any (s := s) (u1.below hB) (u2.below hB) (by omega) (by omega)
  have e0 : errF s l k = 0 := by unfold errF; rw [if_pos hp.ok]
  rw [e0] at hck
  obtain ⟨x, hx⟩ : ∃ x : ByteArray, x = ⟨(wTxtT s l).toArray⟩ := ⟨_, rfl⟩
  obtain ⟨y, hy⟩ : ∃ y : ByteArray, y = ⟨(txtT k).toArray⟩ := ⟨_, rfl⟩
  have hxs : x.size ≤ 4097 := by have := wTxtT_len s l; rw [hx]; simpa [ByteArray.size] using this
  have hys : y.size ≤ 4096 := by have := txtT_len k; rw [hy]; simpa [ByteArray.size] using this
  have HW : Hid (∀ w1, Below w.heap.size w w1 → Calls Tryz.prog 17 #[.agg #[.bool s, .slice A l.length a]] w1 fun e w' => e = .returned (.tuple #[.string x, .int .i64 0]) ∧ Below w1.heap.size w1 w') := fun w1 h => by
    have := wtext_any (s := s) (u1.below h) (by omega) (ht.below h)
    rw [e1] at this
    rw [hx]
    exact this
  have HT : Hid (∀ w1, Below w.heap.size w w1 → Calls Tryz.prog 6 #[.slice B k.length b] w1 fun e w' => e = .returned (.tuple #[.string y, .int .i64 0]) ∧ Below w1.heap.size w1 w') := fun w1 h => by
    have := gtext_all (l := k) ⟨B, b, rfl, u2.below h⟩ (by omega) (ht.below h)
    rw [e2] at this
    rw [hy]
    exact this
  obtain ⟨E, hE⟩ : ∃ E, E = decide (k = [1]) := ⟨_, rfl⟩
  have HQ : Hid (∀ w1, Below w.heap.size w w1 → Calls Tryz.prog 96 #[.slice B k.length b, .slice (some ⟨w1.heap.size, 0, none⟩) 1 1] (w1.alloc (.cells #[.int .u64 1] 68)) fun e w' => e = .returned (.bool E) ∧ Below (w1.alloc (.cells #[.int .u64 1] 68)).heap.size (w1.alloc (.cells #[.int .u64 1] 68)) w') := fun w1 h => by
    have h2 : IsU (w1.alloc (.cells #[.int .u64 1] 68)) old (.slice (some ⟨w1.heap.size, 0, none⟩) 1 1) [1] := isU_one (x := 1) (by omega) (by refine cell_newest ?_ rfl; simp)
    have h3 := equal_dec (IsU.below ⟨B, b, rfl, u2.below h⟩ ((Below.refl _ w1).alloc (Nat.le_refl _) _)) h2
    rwa [← hE] at h3
  have hres : strV str = if E = true then .string x else .string (x ++ ⟨#[47]⟩ ++ y) := by
    rw [← hst, hE, hx, hy]
    by_cases h : k = [1]
    · rw [if_pos h, decide_eq_true h, if_pos rfl, List.append_nil]
    · rw [if_neg h, decide_eq_false h, if_neg (by simp)]
      refine congrArg Value.string ?_
      apply ByteArray.ext
      simp
  have HR := Lib.hid hres
  have HCK := Lib.hid hck
  clear hck e0 e1 e2 hst hx hy hE u1 u2 q1 q2 hp ht hres
  generalize l.length = L1 at *
  generalize k.length = L2 at *
  cases E
  · go_enter Tryz.func38, Tryz.ntmps38
    go_wp2_with fail
    refine HCK.out.mono ?_
    rintro e w1 ⟨rfl, hc1⟩
    have hB1 := from_ hB hc1
    replace b0 := keepC hc1 b0
    replace b1 := keepC hc1 b1
    replace b2 := keepC hc1 b2
    go_wp2_with fail
    refine (HW.out _ hB1).mono ?_
    rintro e w2 ⟨rfl, hc2⟩
    have hB2 := from_ hB1 hc2
    replace b0 := keepC hc2 b0
    replace b1 := keepC hc2 b1
    replace b2 := keepC hc2 b2
    go_wp2_with fail
    refine (HQ.out _ hB2).mono ?_
    rintro e w3 ⟨rfl, hc3⟩
    have hs3 := step (w := w2) (by go_grown) hc3
    have hB3 := from_ hB2 hs3
    replace b0 := keepC hs3 b0
    replace b1 := keepC hs3 b1
    replace b2 := keepC hs3 b2
    go_wp2_with fail
    refine (HT.out _ hB3).mono ?_
    rintro e w4 ⟨rfl, hc4⟩
    have hB4 := from_ hB3 hc4
    go_wp2
    go_ret2
    exact ⟨by rw [HR.out]; rfl, hB4⟩
  · go_enter Tryz.func38, Tryz.ntmps38
    go_wp2_with fail
    refine HCK.out.mono ?_
    rintro e w1 ⟨rfl, hc1⟩
    have hB1 := from_ hB hc1
    replace b0 := keepC hc1 b0
    replace b1 := keepC hc1 b1
    replace b2 := keepC hc1 b2
    go_wp2_with fail
    refine (HW.out _ hB1).mono ?_
    rintro e w2 ⟨rfl, hc2⟩
    have hB2 := from_ hB1 hc2
    replace b0 := keepC hc2 b0
    replace b1 := keepC hc2 b1
    replace b2 := keepC hc2 b2
    go_wp2_with fail
    refine (HQ.out _ hB2).mono ?_
    rintro e w3 ⟨rfl, hc3⟩
    have hs3 := step (w := w2) (by go_grown) hc3
    have hB3 := from_ hB2 hs3
    go_wp2
    go_ret2
    exact ⟨by rw [HR.out]; rfl, hB3⟩

theorem txt1 {n : Nat} (h0 : 0 < n) (h : n < 10) : errT [n] = 0 ∧ txtT [n] = [UInt8.ofNat (48 + n)] := by
  have hg : good [n] = true := by simp [good]; omega
  have hv : val [n] = n := by simp [val]
  have hs : size n ≤ 16384 := by have : size n ≤ 4 := size_le_of (by omega); omega
  have e : Lib.decDigits n = [UInt8.ofNat (48 + n)] := Lib.decDigits_one h
  obtain ⟨t1, t2⟩ := text_few hs (by rw [e]; simp)
  exact ⟨by unfold errT; rw [if_pos hg, hv, t1], by unfold txtT; rw [if_pos hg, hv, t2, e]⟩
theorem wtxt1 {s : Bool} {n : Nat} (h0 : 0 < n) (h : n < 10) : wErrT s [n] = 0 ∧ wTxtT s [n] = (if s = true then [45, UInt8.ofNat (48 + n)] else [UInt8.ofNat (48 + n)]) := by
  obtain ⟨t1, t2⟩ := txt1 h0 h
  have hg : good [n] = true := by simp [good]; omega
  have ho : okI s [n] = true := by unfold okI; rw [hg]; cases s <;> rfl
  refine ⟨by unfold wErrT; rw [if_pos ho, t1], ?_⟩
  unfold wTxtT
  rw [if_pos ho, t1, t2]
  cases s <;> simp

end Go.Proofs.YtceenaegchlbcaaGreatDoor

namespace Go.Proofs.YtceenaegchlbcaaGreatDoor
open Go.RowKit
set_option linter.unusedVariables false
set_option linter.unusedSimpArgs false

set_option maxRecDepth 100000 in
set_option maxHeartbeats 8000000 in
theorem great6_no {w : World} {s : Bool} {l k : List Nat} {A B : Option Addr} {c d n : Nat} (h1 : l.length ≤ n) (h2 : k.length ≤ n) (hn : n ≤ 1000) :
    Calls Tryz.prog 22 #[.agg #[.bool s, .slice A l.length c, .slice B k.length d], .int .i64 (n : Int)] w fun e w' => e = .returned (.bool false) ∧ Below w.heap.size w w' := by
  have hB := box_rat w (.bool s) (.slice A l.length c) (.slice B k.length d)
  obtain ⟨b0, b1, b2, _, _, _, _⟩ := Box3.new w (.bool s) (.slice A l.length c) (.slice B k.length d) 48
  have d1 : decide ((n : Int) < (l.length : Int)) = false := decide_eq_false (by omega)
  have d2 : decide ((n : Int) < (k.length : Int)) = false := decide_eq_false (by omega)
  generalize l.length = L1 at *
  generalize k.length = L2 at *
  go_enter Tryz.func22, Tryz.ntmps22
  go_wp2
  go_ret
  exact ⟨by simp; omega, hB⟩

set_option maxRecDepth 100000 in
set_option maxHeartbeats 8000000 in
theorem great6_yes {w : World} {s : Bool} {l k : List Nat} {A B : Option Addr} {c d n : Nat} (h : n < l.length ∨ (l.length ≤ n ∧ n < k.length)) (hn : n ≤ 1000) :
    Calls Tryz.prog 22 #[.agg #[.bool s, .slice A l.length c, .slice B k.length d], .int .i64 (n : Int)] w fun e w' => e = .returned (.bool true) ∧ Below w.heap.size w w' := by
  have hB := box_rat w (.bool s) (.slice A l.length c) (.slice B k.length d)
  obtain ⟨b0, b1, b2, _, _, _, _⟩ := Box3.new w (.bool s) (.slice A l.length c) (.slice B k.length d) 48
  have hcase : decide (n < l.length) = true ∨ (decide (n < l.length) = false ∧ decide (n < k.length) = true) := by
    rcases h with h | ⟨h1, h2⟩
    · exact .inl (decide_eq_true (by omega))
    · exact .inr ⟨decide_eq_false (by omega), decide_eq_true (by omega)⟩
  generalize l.length = L1 at *
  generalize k.length = L2 at *
  clear h
  rcases hcase with d1 | ⟨d1, d2⟩
  all_goals
    go_enter Tryz.func22, Tryz.ntmps22
    go_wp2
    go_ret
    exact ⟨rfl, hB⟩

theorem checkQ_ok {w : World} {Z Y : Zone} {s : Bool} {l k : List Nat} {A B : Option Addr} {c d : Nat} {q : Rat} (hq : NmQ q s l k) (u1 : U64s w Z A c l) (u2 : U64s w Y B d k) (hl : l.length ≤ 10000) (hl2 : k.length ≤ 10000) :
    Calls Tryz.prog 40 #[.agg #[.bool s, .slice A l.length c, .slice B k.length d]] w fun e w' => e = .returned (.int .i64 0) ∧ Below w.heap.size w w' := by
  have := ratcheck_any (s := s) u1 u2 hl hl2
  have e0 : errF s l k = 0 := by unfold errF; rw [if_pos hq.ok]
  rwa [e0] at this
theorem checkQ_bad {w : World} {Z Y : Zone} {s : Bool} {l k : List Nat} {A B : Option Addr} {c d : Nat} (hq : okQ s l k = false) (u1 : U64s w Z A c l) (u2 : U64s w Y B d k) (hl : l.length ≤ 10000) (hl2 : k.length ≤ 10000) :
    Calls Tryz.prog 40 #[.agg #[.bool s, .slice A l.length c, .slice B k.length d]] w fun e w' => e = .returned (.int .i64 8) ∧ Below w.heap.size w w' := by
  have := ratcheck_any (s := s) u1 u2 hl hl2
  have e0 : errF s l k = 8 := by unfold errF; rw [if_neg (by rw [hq]; simp)]
  rwa [e0] at this

theorem boxes3Q (w : World) (a0 a1 a2 b0 b1 b2 c0 c1 c2 : Value) :
    Box3 (((w.alloc (.cells #[a0, a1, a2] 48)).alloc (.cells #[b0, b1, b2] 48)).alloc (.cells #[c0, c1, c2] 48)) w.heap.size a0 a1 a2 ∧
    Box3 (((w.alloc (.cells #[a0, a1, a2] 48)).alloc (.cells #[b0, b1, b2] 48)).alloc (.cells #[c0, c1, c2] 48)) (w.heap.size + 1) b0 b1 b2 ∧
    Box3 (((w.alloc (.cells #[a0, a1, a2] 48)).alloc (.cells #[b0, b1, b2] 48)).alloc (.cells #[c0, c1, c2] 48)) (w.heap.size + 1 + 1) c0 c1 c2 ∧
    Below w.heap.size w (((w.alloc (.cells #[a0, a1, a2] 48)).alloc (.cells #[b0, b1, b2] 48)).alloc (.cells #[c0, c1, c2] 48)) := boxesQ w a0 a1 a2 b0 b1 b2 c0 c1 c2


set_option maxRecDepth 100000 in
set_option maxHeartbeats 8000000 in
theorem same6_dec {w : World} {Z1 Z2 Z3 Z4 : Zone} {s t : Bool} {l k l' k' : List Nat} {A B C D : Option Addr} {a b c d : Nat} {O : Bool} (hO : decide (s = t ∧ l = l' ∧ k = k') = O) (u1 : U64s w Z1 A a l) (u2 : U64s w Z2 B b k) (u3 : U64s w Z3 C c l') (u4 : U64s w Z4 D d k') :
    Calls Tryz.prog 33 #[.agg #[.bool s, .slice A l.length a, .slice B k.length b], .agg #[.bool t, .slice C l'.length c, .slice D k'.length d]] w fun e w' => e = .returned (.bool O) ∧ Below w.heap.size w w' := by
  obtain ⟨bA, bC, hB0⟩ := boxes2Q w (.bool s) (.slice A l.length a) (.slice B k.length b) (.bool t) (.slice C l'.length c) (.slice D k'.length d)
  obtain ⟨D0, h0⟩ : ∃ D0, D0 = decide (s = t ∧ l = l') := ⟨_, rfl⟩
  obtain ⟨D1, h1⟩ : ∃ D1, D1 = decide (k = k') := ⟨_, rfl⟩
  have C0 := same5_any (a := .agg #[.bool s, .slice A l.length a]) (b := .agg #[.bool t, .slice C l'.length c]) ⟨_, rfl, A, a, rfl, u1.below hB0⟩ ⟨_, rfl, C, c, rfl, u3.below hB0⟩
  have C1 : Hid (∀ w1, Below w.heap.size w w1 → Calls Tryz.prog 10 #[.slice B k.length b, .slice D k'.length d] w1 fun e w' => e = .returned (.bool D1) ∧ Below w1.heap.size w1 w') := fun w1 h => by
    have := same_dec (w := w1) ⟨B, b, rfl, u2.below h⟩ ⟨D, d, rfl, u4.below h⟩
    rwa [← h1] at this
  rw [← h0] at C0
  have hOO : O = (D0 && D1) := by
    rw [← hO, h0, h1, Bool.eq_iff_iff]
    simp only [Bool.and_eq_true, decide_eq_true_iff]
    exact and_assoc.symm
  have C0' := Lib.hid C0
  have HO := Lib.hid hOO
  have Hal := Lib.hid hB0
  obtain ⟨a0, a1, a2, _, _, _, _⟩ := bA
  obtain ⟨c0, c1, c2, _, _, _, _⟩ := bC
  clear u1 u2 u3 u4 hB0 C0 h0 h1 hOO hO
  generalize l.length = L at *
  generalize k.length = K at *
  generalize l'.length = L' at *
  generalize k'.length = K' at *
  cases D0
  · go_enter Tryz.func33, Tryz.ntmps33
    go_wp2_with fail
    refine C0'.out.mono ?_
    rintro e w1 ⟨rfl, hb1⟩
    have hB1 := from_ Hal.out hb1
    go_wp2
    go_ret
    exact ⟨by rw [HO.out]; rfl, hB1⟩
  · go_enter Tryz.func33, Tryz.ntmps33
    go_wp2_with fail
    refine C0'.out.mono ?_
    rintro e w1 ⟨rfl, hb1⟩
    replace a2 := keepC hb1 a2
    replace c2 := keepC hb1 c2
    have hB1 := from_ Hal.out hb1
    go_wp2_with fail
    refine (C1.out _ hB1).mono ?_
    rintro e w2 ⟨rfl, hb2⟩
    have hB2 := from_ hB1 hb2
    go_wp2
    go_ret
    exact ⟨by rw [HO.out]; rfl, hB2⟩

end Go.Proofs.YtceenaegchlbcaaGreatDoor

namespace Go.Proofs.YtceenaegchlbcaaGreatDoor
open Go.RowKit
set_option linter.unusedVariables false
set_option linter.unusedSimpArgs false

theorem rq_valQ {x y : Int} {d : Bool} (hr : x.natAbs % y.natAbs ≠ 0) : rq x y d = if (x < 0 ↔ y < 0) then ((x.natAbs / y.natAbs : Nat) : Int) + (if d = true then 0 else 1) else -((x.natAbs / y.natAbs : Nat) : Int) - (if d = true then 1 else 0) := by
  have hz : decide (0 < (limbs (x.natAbs % y.natAbs)).length) = true := decide_eq_true (by rw [len_pos]; omega)
  unfold rq tq
  rw [hz]
  generalize ((x.natAbs / y.natAbs : Nat) : Int) = q
  by_cases hx : x < 0 <;> by_cases hy : y < 0 <;> cases d <;> simp [hx, hy] <;> omega

/-- Quotients rounded: the plain law. -/
theorem rounds_plainQ {x y : Int} (hy : y ≠ 0) :
    (x.natAbs % y.natAbs = 0 ∧ x - rq x y true * y = 0 ∧ rq x y false = rq x y true ∧ -(rq (-x) y true) = rq x y true ∧ tq x y = rq x y true) ∨
    (x.natAbs % y.natAbs ≠ 0 ∧ sgn (x - rq x y true * y) = sgn y ∧ rq x y false = rq x y true + 1 ∧ -(rq (-x) y true) = rq x y true + 1 ∧ (x - rq x y true * y).natAbs < y.natAbs) := by
  have hn : 0 < y.natAbs := by omega
  have h1 := Nat.div_add_mod x.natAbs y.natAbs
  have h2 := Nat.mod_lt x.natAbs hn
  have h3 : (-x).natAbs = x.natAbs := Int.natAbs_neg x
  by_cases hr : x.natAbs % y.natAbs = 0
  · left
    unfold rq tq
    rw [h3]
    rw [hr] at h1 ⊢
    have hz : decide (0 < (limbs 0).length) = false := decide_eq_false (by rw [len_pos]; omega)
    rw [hz]
    simp only [Bool.false_and, Bool.false_eq_true, if_false]
    generalize x.natAbs / y.natAbs = q at *
    have h4 : ((y.natAbs * q + 0 : Nat) : Int) = (x.natAbs : Int) := by rw [h1]
    rw [Int.natCast_add, Int.natCast_mul] at h4
    by_cases hx : x < 0
    · have e1 : (x.natAbs : Int) = -x := by omega
      have hx2 : ¬ (-x < 0) := by omega
      by_cases hy2 : y < 0
      · have e2 : (y.natAbs : Int) = -y := by omega
        rw [e1, e2] at h4
        simp only [hx, hx2, hy2, decide_true, decide_false, if_true, if_false]
        refine ⟨by trivial, ?_, by trivial, ?_, by trivial⟩
        · rw [Int.neg_mul] at h4; rw [Int.mul_comm]; omega
        · rw [if_neg (by decide)]; omega
      · have e2 : (y.natAbs : Int) = y := by omega
        rw [e1, e2] at h4
        simp only [hx, hx2, hy2, decide_true, decide_false, if_true, if_false]
        refine ⟨by trivial, ?_, by trivial, ?_, by trivial⟩
        · rw [if_neg (by decide), Int.neg_mul, Int.mul_comm]; omega
        · rw [if_neg (by decide)]
    · by_cases hx0 : x = 0
      · subst hx0
        have hq : q = 0 := by
          rcases Nat.mul_eq_zero.1 (show y.natAbs * q = 0 by simpa using h1) with h | h
          · omega
          · exact h
        subst hq
        simp
      · have e1 : (x.natAbs : Int) = x := by omega
        have hx2 : -x < 0 := by omega
        by_cases hy2 : y < 0
        · have e2 : (y.natAbs : Int) = -y := by omega
          rw [e1, e2] at h4
          simp only [hx, hx2, hy2, decide_true, decide_false, if_true, if_false]
          refine ⟨by trivial, ?_, by trivial, ?_, by trivial⟩
          · rw [if_neg (by decide), Int.neg_mul, Int.mul_comm]; rw [Int.neg_mul] at h4; omega
          · rw [if_neg (by decide)]
        · have e2 : (y.natAbs : Int) = y := by omega
          rw [e1, e2] at h4
          simp only [hx, hx2, hy2, decide_true, decide_false, if_true, if_false]
          refine ⟨by trivial, ?_, by trivial, ?_, by trivial⟩
          · rw [Int.mul_comm]; omega
          · rw [if_neg (by decide)]; omega
  · right
    have hx0 : x ≠ 0 := by
      intro h
      subst h
      exact hr (by simp)
    have hr3 : (-x).natAbs % y.natAbs ≠ 0 := by rw [h3]; exact hr
    rw [rq_valQ hr, rq_valQ hr, rq_valQ hr3, h3]
    refine ⟨hr, ?_⟩
    generalize x.natAbs / y.natAbs = q at *
    generalize x.natAbs % y.natAbs = r at *
    have h4 : ((y.natAbs * q + r : Nat) : Int) = (x.natAbs : Int) := by rw [h1]
    rw [Int.natCast_add, Int.natCast_mul] at h4
    have sp : ∀ z : Int, 0 < z → sgn z = 1 := fun z hz => by unfold sgn; rw [if_neg (by omega), if_neg (by omega)]
    have sn : ∀ z : Int, z < 0 → sgn z = -1 := fun z hz => by unfold sgn; rw [if_neg (by omega), if_pos hz]
    simp only [if_true, Bool.false_eq_true, if_false]
    have k2 : (q : Int) * y = y * q := Int.mul_comm _ _
    have k4 : ((q : Int) + 0) * y = y * q := by rw [Int.add_zero]; exact k2
    have k3 : (-(q : Int) - 1) * y = -(y * q) - y := by rw [Int.sub_mul, Int.neg_mul, k2]; omega
    by_cases hx : x < 0
    · have e1 : (x.natAbs : Int) = -x := by omega
      by_cases hy2 : y < 0
      · have e2 : (y.natAbs : Int) = -y := by omega
        rw [e1, e2, Int.neg_mul] at h4
        rw [if_pos (show (x < 0 ↔ y < 0) by omega), if_pos (show (x < 0 ↔ y < 0) by omega), if_neg (show ¬ (-x < 0 ↔ y < 0) by omega), k4]
        refine ⟨?_, by omega, by omega, by omega⟩
        rw [sn y hy2, sn _ (by omega)]
      · have e2 : (y.natAbs : Int) = y := by omega
        rw [e1, e2] at h4
        rw [if_neg (show ¬ (x < 0 ↔ y < 0) by omega), if_neg (show ¬ (x < 0 ↔ y < 0) by omega), if_pos (show (-x < 0 ↔ y < 0) by omega), k3]
        refine ⟨?_, by omega, by omega, by omega⟩
        rw [sp y (by omega), sp _ (by omega)]
    · have e1 : (x.natAbs : Int) = x := by omega
      by_cases hy2 : y < 0
      · have e2 : (y.natAbs : Int) = -y := by omega
        rw [e1, e2, Int.neg_mul] at h4
        rw [if_neg (show ¬ (x < 0 ↔ y < 0) by omega), if_neg (show ¬ (x < 0 ↔ y < 0) by omega), if_pos (show (-x < 0 ↔ y < 0) by omega), k3]
        refine ⟨?_, by omega, by omega, by omega⟩
        rw [sn y hy2, sn _ (by omega)]
      · have e2 : (y.natAbs : Int) = y := by omega
        rw [e1, e2] at h4
        rw [if_pos (show (x < 0 ↔ y < 0) by omega), if_pos (show (x < 0 ↔ y < 0) by omega), if_neg (show ¬ (-x < 0 ↔ y < 0) by omega), k4]
        refine ⟨?_, by omega, by omega, by omega⟩
        rw [sp y (by omega), sp _ (by omega)]

theorem len_rqQ (x y : Int) (d : Bool) : (limbs (rq x y d).natAbs).length ≤ (limbs x.natAbs).length + 1 := by
  have h : (rq x y d).natAbs ≤ x.natAbs + 1 := by
    have h1 : (tq x y).natAbs ≤ x.natAbs := by
      have h2 := Nat.div_le_self x.natAbs y.natAbs
      unfold tq
      generalize x.natAbs / y.natAbs = q at *
      split <;> omega
    unfold rq
    split
    · split <;> omega
    · omega
  have h2 := len_add x.natAbs 1
  have h3 : (limbs 1).length = 1 := by rw [limbs_one (by omega) (by omega)]; rfl
  by_cases h0 : x.natAbs = 0
  · rw [h0] at h ⊢
    exact Nat.le_trans (len_mono h) (by rw [Nat.zero_add, h3]; omega)
  · have := (len_pos (m := x.natAbs)).2 (by omega)
    exact Nat.le_trans (Nat.le_trans (len_mono h) h2) (by omega)

theorem sgn_divInt {x d : Int} (hd : 0 < d) : sgn (Rat.divInt x d).num = sgn x := by
  obtain ⟨h1, h2, h3⟩ := divInt_parts (x := x) (y := d) (by omega)
  have hg : 0 < Nat.gcd x.natAbs d.natAbs := Nat.gcd_pos_of_pos_right _ (by omega)
  have h0 : (Rat.divInt x d).num = 0 ↔ x = 0 := by
    constructor
    · intro h
      have h4 := Nat.div_mul_cancel (Nat.gcd_dvd_left x.natAbs d.natAbs)
      rw [← h1, h] at h4
      have h5 : x.natAbs = 0 := by rw [← h4]; simp
      omega
    · intro h
      have h5 : (Rat.divInt x d).num.natAbs = 0 := by rw [h1, h]; simp
      omega
  unfold sgn
  by_cases hx : x = 0
  · rw [if_pos (h0.2 hx), if_pos hx]
  · rw [if_neg (fun h => hx (h0.1 h)), if_neg hx]
    by_cases hn : x < 0
    · rw [if_pos (h3.2 (.inl ⟨hn, hd⟩)), if_pos hn]
    · rw [if_neg (fun h => by rcases h3.1 h with h | h <;> omega), if_neg hn]
theorem divInt_sub {a b d : Int} (hd : d ≠ 0) : Rat.divInt a d - Rat.divInt b d = Rat.divInt (a - b) d := by
  rw [Rat.sub_eq_add_neg, Rat.neg_divInt, Rat.divInt_add_divInt _ _ hd hd, ← Int.add_mul, Rat.divInt_mul_right hd, Int.sub_eq_add_neg]
theorem divInt_up {z d : Int} (hd : d ≠ 0) : Rat.divInt z 1 = Rat.divInt (z * d) d := by
  have h := Rat.divInt_mul_right (n := z) (d := 1) hd
  rw [Int.one_mul] at h
  exact h.symm
theorem divInt_none {d : Int} (hd : d ≠ 0) : Rat.divInt 0 1 = Rat.divInt 0 d := by
  have h := divInt_up (z := 0) hd
  rwa [Int.zero_mul] at h
/-- The whole numbers below and above a fraction. -/
theorem order_plain (p : Rat) :
    sgn ((p - Rat.divInt (rq p.num (p.den : Int) true) 1) - Rat.divInt 1 1).num = -1 ∧ sgn ((Rat.divInt (rq p.num (p.den : Int) false) 1 - p) - Rat.divInt 1 1).num = -1 ∧
    (0 ≤ sgn ((p - Rat.divInt (rq p.num (p.den : Int) true) 1) - Rat.divInt 0 1).num ∧ sgn ((p - Rat.divInt (rq p.num (p.den : Int) true) 1) - Rat.divInt 0 1).num ≤ 1) ∧
    (0 ≤ sgn ((Rat.divInt (rq p.num (p.den : Int) false) 1 - p) - Rat.divInt 0 1).num ∧ sgn ((Rat.divInt (rq p.num (p.den : Int) false) 1 - p) - Rat.divInt 0 1).num ≤ 1) := by
  have hd : (p.den : Int) ≠ 0 := by have := p.den_nz; omega
  have hd0 : (0 : Int) < (p.den : Int) := by omega
  have hp : p = Rat.divInt p.num (p.den : Int) := (Rat.num_divInt_den p).symm
  have hr := rounds_plainQ (x := p.num) (y := (p.den : Int)) hd
  generalize p.num = x at *
  generalize (p.den : Int) = d at *
  have e1 : Rat.divInt 1 1 = Rat.divInt d d := by have := divInt_up (z := 1) hd; rwa [Int.one_mul] at this
  rw [hp, e1, divInt_none hd, divInt_up (z := rq x d true) hd, divInt_up (z := rq x d false) hd]
  simp only [divInt_sub hd, sgn_divInt hd0]
  have hs : ∀ z : Int, z < 0 → sgn z = -1 := fun z h => by unfold sgn; rw [if_neg (by omega), if_pos h]
  have hs2 : ∀ z : Int, 0 ≤ z → 0 ≤ sgn z ∧ sgn z ≤ 1 := fun z h => by
    unfold sgn
    split
    · omega
    · rw [if_neg (by omega)]; omega
  have hlo : 0 ≤ x - rq x d true * d ∧ x - rq x d true * d < d ∧ 0 ≤ rq x d false * d - x ∧ rq x d false * d - x < d := by
    rcases hr with ⟨_, h1, h2, _⟩ | ⟨_, h1, h2, _, h3⟩
    · rw [h2]; omega
    · have h4 : sgn d = 1 := by unfold sgn; rw [if_neg hd, if_neg (by omega)]
      rw [h4] at h1
      have h5 : 0 < x - rq x d true * d := by
        unfold sgn at h1
        split at h1
        · omega
        · split at h1
          · omega
          · omega
      rw [h2, Int.add_mul, Int.one_mul]
      omega
  obtain ⟨a1, a2, a3, a4⟩ := hlo
  exact ⟨hs _ (by omega), hs _ (by omega), hs2 _ (by omega), hs2 _ (by omega)⟩
theorem sub_len {p q : Rat} {K : Nat} (h1 : (limbs p.num.natAbs).length ≤ K) (h2 : (limbs p.den).length ≤ K) (h3 : (limbs q.num.natAbs).length ≤ K) (h4 : (limbs q.den).length ≤ K) :
    (limbs (p - q).num.natAbs).length ≤ K + K + 1 ∧ (limbs (p - q).den).length ≤ K + K := by
  have h := add_len p (-q)
  rw [← Rat.sub_eq_add_neg, Rat.neg_num, Rat.neg_den, Int.natAbs_neg] at h
  omega
theorem nmq_eq {p q : Rat} {s t : Bool} {l k l' k' : List Nat} (hp : NmQ p s l k) (hq : NmQ q t l' k') : decide (s = t ∧ l = l' ∧ k = k') = decide (sgn (p - q).num = 0) := by
  refine decide_eq_decide.2 ?_
  have h0 : sgn (p - q).num = 0 ↔ p - q = 0 := by
    rw [← Rat.num_eq_zero]
    unfold sgn
    constructor
    · intro h
      split at h
      · assumption
      · split at h <;> omega
    · intro h; rw [if_pos h]
  rw [h0]
  constructor
  · rintro ⟨rfl, rfl, rfl⟩
    rw [hp.uniq hq]
    grind
  · intro h
    have e : p = q := by grind
    subst e
    obtain ⟨a1, a2, a3⟩ := hp
    obtain ⟨b1, b2, b3⟩ := hq
    exact ⟨a1.trans b1.symm, a2.trans b2.symm, a3.trans b3.symm⟩
theorem sgn_neg (x : Int) : sgn (-x) = -sgn x := by
  unfold sgn
  by_cases h : x = 0
  · subst h; rfl
  · by_cases h2 : x < 0
    · rw [if_neg (by omega), if_neg (by omega), if_neg h, if_pos h2]; rfl
    · rw [if_neg (by omega), if_pos (by omega), if_neg h, if_neg h2]
theorem sgn_vals (x : Int) : sgn x = -1 ∨ sgn x = 0 ∨ sgn x = 1 := by
  unfold sgn
  split
  · simp
  · split <;> simp

/-- What Add answers, whatever it is handed: fixed by what is handed. -/
theorem radd_some (s t : Bool) (l k l' k' : List Nat) : ∃ (r : Bool) (la ld : List Nat) (E : Int), ∀ (w : World) (Z1 Z2 Z3 Z4 : Zone) (A B C D : Option Addr) (a b c d : Nat), U64s w Z1 A a l → U64s w Z2 B b k → U64s w Z3 C c l' → U64s w Z4 D d k' → l.length ≤ 2000 → k.length ≤ 2000 → l'.length ≤ 2000 → k'.length ≤ 2000 →
    Calls Tryz.prog 23 #[.agg #[.bool s, .slice A l.length a, .slice B k.length b], .agg #[.bool t, .slice C l'.length c, .slice D k'.length d]] w fun e w' => ∃ An cn Ad cd, e = .returned (.tuple #[.agg #[.bool r, .slice An la.length cn, .slice Ad ld.length cd], .int .i64 E]) ∧ U64s w' (new w.heap.size) An cn la ∧ U64s w' (new w.heap.size) Ad cd ld ∧ Below w.heap.size w w' := by
  by_cases h : (okQ s l k = true ∧ okQ t l' k' = true) ∧ (Small l ∧ Small k) ∧ (Small l' ∧ Small k')
  · obtain ⟨⟨o1, o2⟩, ⟨s1, s2⟩, s3, s4⟩ := h
    obtain ⟨p, hp⟩ := okQ_nm o1 s1 s2
    obtain ⟨q, hq⟩ := okQ_nm o2 s3 s4
    exact ⟨_, _, _, 0, fun w Z1 Z2 Z3 Z4 A B C D a b c d u1 u2 u3 u4 q1 q2 q3 q4 => radd_q hp hq (NmQ.mk' (p + q)) rfl u1 u2 u3 u4 q1 q2 q3 q4⟩
  · refine ⟨false, [], [], 8, fun w Z1 Z2 Z3 Z4 A B C D a b c d u1 u2 u3 u4 q1 q2 q3 q4 => ?_⟩
    refine (radd_err u1 u2 u3 u4 q1 q2 q3 q4 (fun ho => h ⟨ho, ⟨u1.small, u2.small⟩, u3.small, u4.small⟩)).mono ?_
    rintro e w' ⟨rfl, hb⟩
    exact ⟨none, 0, none, 0, rfl, U64s.nil _ _, U64s.nil _ _, hb⟩

end Go.Proofs.YtceenaegchlbcaaGreatDoor

namespace Go.Proofs.YtceenaegchlbcaaGreatDoor
open Go.RowKit
set_option linter.unusedVariables false
set_option linter.unusedSimpArgs false

set_option maxRecDepth 100000 in
set_option maxHeartbeats 4000000 in
theorem r6div_err {w : World} {Z1 Z2 Z3 Z4 : Zone} {s t : Bool} {l k l' k' : List Nat} {A B C D : Option Addr} {a b c d : Nat} (u1 : U64s w Z1 A a l) (u2 : U64s w Z2 B b k) (u3 : U64s w Z3 C c l') (u4 : U64s w Z4 D d k') (q1 : l.length ≤ 300) (q2 : k.length ≤ 300) (q3 : l'.length ≤ 300) (q4 : k'.length ≤ 300) (ho : ¬ (okQ s l k = true ∧ okQ t l' k' = true)) :
    Calls Tryz.prog 30 #[.agg #[.bool s, .slice A l.length a, .slice B k.length b], .agg #[.bool t, .slice C l'.length c, .slice D k'.length d]] w fun e w' => e = .returned (.tuple #[.agg #[.bool false, .slice none 0 0, .slice none 0 0], .int .i64 8]) ∧ Below w.heap.size w w' := by
  obtain ⟨bA, bB, bR, hB0⟩ := boxesQ w (.bool s) (.slice A l.length a) (.slice B k.length b) (.bool t) (.slice C l'.length c) (.slice D k'.length d) (.bool false) (.slice none 0 0) (.slice none 0 0)
  have hT := r6two_any (s := s) (t := t) (u1.below hB0) (u2.below hB0) (u3.below hB0) (u4.below hB0) q1 q2 q3 q4
  rw [show qE s l k t l' k' = 8 from if_neg ho] at hT
  have HT := Lib.hid hT
  have HB0 := Lib.hid hB0
  obtain ⟨a0, a1, a2, _, _, _, _⟩ := bA
  obtain ⟨b0, b1, b2, _, _, _, _⟩ := bB
  clear u1 u2 u3 u4 q1 q2 q3 q4 ho hB0 hT
  generalize l.length = L1 at *
  generalize k.length = L2 at *
  generalize l'.length = L3 at *
  generalize k'.length = L4 at *
  go_enter Tryz.func30, Tryz.ntmps30
  go_wp2_with fail
  refine HT.out.mono ?_
  rintro e w1 ⟨rfl, hc⟩
  have bR1 := bR.below hc
  have HP := Lib.hid (bR1.put (from_ HB0.out hc) (by omega) (.bool false) (.slice none 0 0) (.slice none 0 0))
  obtain ⟨qq0, qq1, qq2, ff0, ff1, ff2, _⟩ := (show Box3 w1 (w.heap.size + 1 + 1) _ _ _ from bR1)
  clear a0 a1 a2 b0 b1 b2 bR hc
  go_wp2
  refine bodyPost_ret (res_rat2 rfl _ (w.heap.size + 2) rfl HP.out.c0 HP.out.c1 HP.out.c2) rfl ?_
  exact ⟨rfl, HP.out.bel⟩

theorem div_pos {p q : Rat} (h : 0 < q.num) : Rat.divInt (p.num * (q.den : Int)) ((p.den : Int) * ((q.num.natAbs : Nat) : Int)) = p / q := by
  rw [show ((q.num.natAbs : Nat) : Int) = q.num by omega]
  exact rat_div p q
theorem div_neg {p q : Rat} (h : q.num < 0) : Rat.divInt (-(p.num * (q.den : Int))) ((p.den : Int) * ((q.num.natAbs : Nat) : Int)) = p / q := by
  rw [show ((q.num.natAbs : Nat) : Int) = -q.num by omega, Int.mul_neg, Rat.neg_divInt_neg]
  exact rat_div p q

set_option maxRecDepth 100000 in
set_option maxHeartbeats 4000000 in
theorem r6div_zero {w : World} {Z1 Z2 Z3 Z4 : Zone} {s t : Bool} {l k l' k' : List Nat} {A B C D : Option Addr} {a b c d : Nat} {p q : Rat} (hp : NmQ p s l k) (hq : NmQ q t l' k') (h0 : q.num = 0) (u1 : U64s w Z1 A a l) (u2 : U64s w Z2 B b k) (u3 : U64s w Z3 C c l') (u4 : U64s w Z4 D d k') (q1 : l.length ≤ 300) (q2 : k.length ≤ 300) (q3 : l'.length ≤ 300) (q4 : k'.length ≤ 300) :
    Calls Tryz.prog 30 #[.agg #[.bool s, .slice A l.length a, .slice B k.length b], .agg #[.bool t, .slice C l'.length c, .slice D k'.length d]] w fun e w' => e = .returned (.tuple #[.agg #[.bool false, .slice none 0 0, .slice none 0 0], .int .i64 30]) ∧ Below w.heap.size w w' := by
  obtain ⟨bA, bB, bR, hB0⟩ := boxesQ w (.bool s) (.slice A l.length a) (.slice B k.length b) (.bool t) (.slice C l'.length c) (.slice D k'.length d) (.bool false) (.slice none 0 0) (.slice none 0 0)
  have hT := r6two_any (s := s) (t := t) (u1.below hB0) (u2.below hB0) (u3.below hB0) (u4.below hB0) (by omega) (by omega) (by omega) (by omega)
  rw [show qE s l k t l' k' = 0 from if_pos ⟨hp.ok, hq.ok⟩] at hT
  have HT := Lib.hid hT
  have HB0 := Lib.hid hB0
  have hl0 : l'.length = 0 := by rw [hq.2.1, h0]; rw [show (0 : Int).natAbs = 0 from rfl, limbs_eq_nil.2 rfl]; rfl
  obtain ⟨a0, a1, a2, _, _, _, _⟩ := bA
  obtain ⟨b0, b1, b2, _, _, _, _⟩ := bB
  clear u1 u2 u3 u4 q1 q2 q3 q4 hp hq h0 hB0 hT
  rw [hl0] at b1 HT HB0 ⊢
  rw [hl0] at bR
  generalize l.length = L1 at *
  generalize k.length = L2 at *
  generalize k'.length = L4 at *
  clear hl0
  go_enter Tryz.func30, Tryz.ntmps30
  go_wp2_with fail
  refine HT.out.mono ?_
  rintro e w1 ⟨rfl, hc⟩
  replace b1 := keepC hc b1
  have bR1 := bR.below hc
  have HP := Lib.hid (bR1.put (from_ HB0.out hc) (by omega) (.bool false) (.slice none 0 0) (.slice none 0 0))
  obtain ⟨qq0, qq1, qq2, ff0, ff1, ff2, _⟩ := (show Box3 w1 (w.heap.size + 1 + 1) _ _ _ from bR1)
  clear a0 a1 a2 b0 b2 bR hc
  go_wp2
  refine bodyPost_ret (res_rat2 rfl _ (w.heap.size + 2) rfl HP.out.c0 HP.out.c1 HP.out.c2) rfl ?_
  exact ⟨rfl, HP.out.bel⟩

theorem keep4 {W W' : World} {g h f : Nat} {x0 x1 x2 x3 : Value} (hs : W.cell? ⟨g, 2, none⟩ = some x0 ∧ W.cell? ⟨h, 1, none⟩ = some x1 ∧ W.cell? ⟨f, 0, none⟩ = some x2 ∧ W.cell? ⟨f, 1, none⟩ = some x3) (hb : Below W.heap.size W W') :
    W'.cell? ⟨g, 2, none⟩ = some x0 ∧ W'.cell? ⟨h, 1, none⟩ = some x1 ∧ W'.cell? ⟨f, 0, none⟩ = some x2 ∧ W'.cell? ⟨f, 1, none⟩ = some x3 := ⟨keepC hb hs.1, keepC hb hs.2.1, keepC hb hs.2.2.1, keepC hb hs.2.2.2⟩
theorem st4P {W : World} {g h f r : Nat} {x0 x1 x2 x3 x y z : Value} (hg : r ≠ g) (hh : r ≠ h) (hf : r ≠ f) (hs : W.cell? ⟨g, 2, none⟩ = some x0 ∧ W.cell? ⟨h, 1, none⟩ = some x1 ∧ W.cell? ⟨f, 0, none⟩ = some x2 ∧ W.cell? ⟨f, 1, none⟩ = some x3) :
    let V := ((W.setCell ⟨r, 0, none⟩ x).setCell ⟨r, 1, none⟩ y).setCell ⟨r, 2, none⟩ z
    V.cell? ⟨g, 2, none⟩ = some x0 ∧ V.cell? ⟨h, 1, none⟩ = some x1 ∧ V.cell? ⟨f, 0, none⟩ = some x2 ∧ V.cell? ⟨f, 1, none⟩ = some x3 := ⟨stQ3 hs.1 hg, stQ3 hs.2.1 hh, stQ3 hs.2.2.1 hf, stQ3 hs.2.2.2 hf⟩
set_option maxRecDepth 100000 in
set_option maxHeartbeats 4000000 in
theorem r6div_pos {w : World} {Z1 Z2 Z3 Z4 : Zone} {s t : Bool} {l k l' k' : List Nat} {A B C D : Option Addr} {a b c d : Nat} {p q z : Rat} {r : Bool} {la ld : List Nat} (hp : NmQ p s l k) (hq : NmQ q t l' k') (hz : NmQ z r la ld) (he : p / q = z) (h0 : 0 < q.num) (u1 : U64s w Z1 A a l) (u2 : U64s w Z2 B b k) (u3 : U64s w Z3 C c l') (u4 : U64s w Z4 D d k') (q1 : l.length ≤ 300) (q2 : k.length ≤ 300) (q3 : l'.length ≤ 300) (q4 : k'.length ≤ 300) :
    Calls Tryz.prog 30 #[.agg #[.bool s, .slice A l.length a, .slice B k.length b], .agg #[.bool t, .slice C l'.length c, .slice D k'.length d]] w fun e w' => ∃ An cn Ad cd, e = .returned (.tuple #[.agg #[.bool r, .slice An la.length cn, .slice Ad ld.length cd], .int .i64 0]) ∧ U64s w' (new w.heap.size) An cn la ∧ U64s w' (new w.heap.size) Ad cd ld ∧ Below w.heap.size w w' := by
  obtain ⟨bA, bB, bR, hB0⟩ := boxesQ w (.bool s) (.slice A l.length a) (.slice B k.length b) (.bool t) (.slice C l'.length c) (.slice D k'.length d) (.bool false) (.slice none 0 0) (.slice none 0 0)
  have hT := r6two_any (s := s) (t := t) (u1.below hB0) (u2.below hB0) (u3.below hB0) (u4.below hB0) (by omega) (by omega) (by omega) (by omega)
  rw [show qE s l k t l' k' = 0 from if_pos ⟨hp.ok, hq.ok⟩] at hT
  have HT := Lib.hid hT
  have HB0 := Lib.hid hB0
  have ht : t = false := by rw [hq.1]; exact decide_eq_false (by omega)
  have hlp : 0 < l'.length := by rw [hq.2.1]; exact len_pos.2 (by omega)
  have hz1 : ((l'.length : Int) == 0) = false := beq_eq_false_iff_ne.2 (by omega)
  have hz2 : decide (l'.length = 0) = false := decide_eq_false (by omega)
  obtain ⟨s1, l1, n1⟩ : ∃ s1 l1, Nm (p.num * (q.den : Int)) s1 l1 := ⟨_, _, Nm.mk' _⟩
  have na := hq.num.abs
  have hdd : (0 : Int) < (p.den : Int) * ((q.num.natAbs : Nat) : Int) := by
    have := p.den_pos
    exact Int.mul_pos (by omega) (by omega)
  obtain ⟨l4, n4⟩ : ∃ m, Nm ((p.den : Int) * ((q.num.natAbs : Nat) : Int)) false m := ⟨_, (decide_eq_false (by omega)).symm, rfl⟩
  have m1 := lz_mul p.num (q.den : Int)
  have m4 := lz_mul (p.den : Int) ((q.num.natAbs : Nat) : Int)
  rw [← n1.len, ← hp.num.len, ← hq.den.len] at m1
  rw [← n4.len, ← hp.den.len, ← na.len] at m4
  have C1 : Hid (∀ W, Below w.heap.size w W → Calls Tryz.prog 91 #[.agg #[.bool s, .slice A l.length a], .slice D k'.length d] W fun e w' => ∃ Av cv, e = .returned (.agg #[.bool s1, .slice Av l1.length cv]) ∧ U64s w' (new W.heap.size) Av cv l1 ∧ Below W.heap.size W w') := fun W h => r6times_n hp.num hq.den n1 rfl (by omega) (by omega) (u1.below h) (u4.below h)
  have C4 : Hid (∀ W, Below w.heap.size w W → Calls Tryz.prog 61 #[.slice B k.length b, .slice C l'.length c] W fun e w' => ∃ Av cv, e = .returned (.slice Av l4.length cv) ∧ U64s w' (new W.heap.size) Av cv l4 ∧ Below W.heap.size W w') := fun W h => rtimes_v hp.den na n4 rfl (by omega) (by omega) (u2.below h) (u3.below h)
  have C5 : Hid (∀ W Z Y A1 c1 A2 c2, U64s W Z A1 c1 l1 → U64s W Y A2 c2 l4 → Calls Tryz.prog 92 #[.agg #[.bool s1, .slice A1 l1.length c1], .slice A2 l4.length c2] W fun e w' => ∃ An cn Ad cd, e = .returned (.agg #[.bool r, .slice An la.length cn, .slice Ad ld.length cd]) ∧ U64s w' (new W.heap.size) An cn la ∧ U64s w' (new W.heap.size) Ad cd ld ∧ Below W.heap.size W w') := fun W Z Y A1 c1 A2 c2 h1 h2 => r6low_q n1 n4 hdd hz (by rw [div_pos h0, he]) (by omega) (by omega) h1 h2
  subst ht
  obtain ⟨a0, a1, a2, _, _, _, _⟩ := bA
  obtain ⟨b0, b1, b2, _, _, _, _⟩ := bB
  have BRx : Box3 _ (w.heap.size + 1 + 1) _ _ _ := bR
  clear u1 u2 u3 u4 q1 q2 q3 q4 hp hq hz he hB0 hT n1 n4 na m1 m4 hdd hlp h0 bR
  go_enter Tryz.func30, Tryz.ntmps30
  go_wp2_with fail
  refine HT.out.mono ?_
  rintro e w1 ⟨rfl, hc⟩
  replace a0 := keepC hc a0
  replace a1 := keepC hc a1
  replace a2 := keepC hc a2
  replace b0 := keepC hc b0
  replace b1 := keepC hc b1
  replace b2 := keepC hc b2
  have HR := Lib.hid (BRx.below hc)
  have hB1 := from_ HB0.out hc
  clear hc BRx HT
  go_wp2_with fail
  refine (C1.out _ hB1).mono ?_
  rintro e w2 ⟨A1, c1, rfl, v1, hc⟩
  have hal : Below w2.heap.size w2 (w2.alloc (.cells #[.bool s1, .slice A1 l1.length c1] 36)) := (Below.refl _ _).alloc (Nat.le_refl _) _
  have hcal := from_ hc hal
  replace a0 := keepC hcal a0
  replace a1 := keepC hcal a1
  replace a2 := keepC hcal a2
  replace b0 := keepC hcal b0
  replace b1 := keepC hcal b1
  replace b2 := keepC hcal b2
  have hgw : w.heap.size + 1 + 1 < w2.heap.size := (HR.out.below hc).lt
  replace HR := Lib.hid (HR.out.below hcal)
  replace v1 := v1.below hal
  have b7 := Box.new w2 (.bool s1) (.slice A1 l1.length c1) 36
  have hB2 := from_ hB1 hcal
  clear hc hal hcal
  go_upto_region 9 with fail
  generalize hV : w2.alloc (.cells #[.bool s1, .slice A1 l1.length c1] 36) = V at *
  clear hV
  have hs := keep4 (And.intro a2 (And.intro b1 (And.intro b7.c0 b7.c1))) (Below.refl _ V).drew
  have Hc := Lib.hid hB2.drew
  replace HR := Lib.hid (HR.out.below (Below.refl _ V).drew)
  have v7 := v1.below (Below.refl _ V).drew
  generalize hg7 : w2.heap.size = g7 at *
  generalize hgR : w.heap.size + 1 + 1 = gR at *
  have N1 := Lib.hid (show gR ≠ w.heap.size by omega)
  have N2 := Lib.hid (show gR ≠ w.heap.size + 1 by omega)
  have N3 := Lib.hid (show w.heap.size ≤ gR by omega)
  have N7 := Lib.hid (show gR ≠ g7 by omega)
  clear hgR hg7
  first | go_region_held3 (fun w' => w'.cell? ⟨w.heap.size, 2, none⟩ = some (.slice B k.length b) ∧ w'.cell? ⟨(w.heap.size + 1), 1, none⟩ = some (.slice C l'.length c) ∧ w'.cell? ⟨g7, 0, none⟩ = some (.bool s1) ∧ w'.cell? ⟨g7, 1, none⟩ = some (.slice A1 l1.length c1))
    (first
      | with_reducible exact hs
      | with_reducible exact st4P N1.out N2.out N7.out hs)
    (first
      | (go_at_call 61; with_reducible refine (C4.out _ Hc.out).mono ?_; rintro e w' ⟨A6, c6, rfl, vt, hc⟩; replace hs := keep4 hs hc; have Hp := Hc; replace Hc := Lib.hid (from_ Hc.out hc); have zl := HR.out.lt; replace HR := Lib.hid (HR.out.below hc); (try replace v7 := v7.below hc))
      | (go_at_call 92; with_reducible refine (C5.out _ _ _ _ _ _ _ v7 vt).mono ?_; rintro e w' ⟨An, cn, Ad, cd, rfl, v3, v4, hc⟩; replace hs := keep4 hs hc; have Hp := Hc; replace Hc := Lib.hid (from_ Hc.out hc); have zl := HR.out.lt; replace HR := Lib.hid (HR.out.below hc); obtain ⟨qq0, qq1, qq2, ff0, ff1, ff2, _⟩ := id HR.out)) | fail
  all_goals
    have HP := Lib.hid (HR.out.put Hc.out N3.out (.bool r) (.slice An la.length cn) (.slice Ad ld.length cd))
    have HN5 := Lib.hid ((HP.out.keep (fun (h : _ ≤ gR) => by omega) v3).mono (Y := new w.heap.size) (new_le Hp.out.size))
    have HD5 := Lib.hid ((HP.out.keep (fun (h : _ ≤ gR) => by omega) v4).mono (Y := new w.heap.size) (new_le Hp.out.size))
    clear v3 v4
    go_wp2
    refine bodyPost_ret (res_rat2 rfl _ gR rfl HP.out.c0 HP.out.c1 HP.out.c2) rfl ?_
    exact ⟨_, _, _, _, rfl, HN5.out, HD5.out, HP.out.bel⟩

set_option maxRecDepth 100000 in
set_option maxHeartbeats 4000000 in
theorem r6div_neg {w : World} {Z1 Z2 Z3 Z4 : Zone} {s t : Bool} {l k l' k' : List Nat} {A B C D : Option Addr} {a b c d : Nat} {p q z : Rat} {r : Bool} {la ld : List Nat} (hp : NmQ p s l k) (hq : NmQ q t l' k') (hz : NmQ z r la ld) (he : p / q = z) (h0 : q.num < 0) (u1 : U64s w Z1 A a l) (u2 : U64s w Z2 B b k) (u3 : U64s w Z3 C c l') (u4 : U64s w Z4 D d k') (q1 : l.length ≤ 300) (q2 : k.length ≤ 300) (q3 : l'.length ≤ 300) (q4 : k'.length ≤ 300) :
    Calls Tryz.prog 30 #[.agg #[.bool s, .slice A l.length a, .slice B k.length b], .agg #[.bool t, .slice C l'.length c, .slice D k'.length d]] w fun e w' => ∃ An cn Ad cd, e = .returned (.tuple #[.agg #[.bool r, .slice An la.length cn, .slice Ad ld.length cd], .int .i64 0]) ∧ U64s w' (new w.heap.size) An cn la ∧ U64s w' (new w.heap.size) Ad cd ld ∧ Below w.heap.size w w' := by
  obtain ⟨bA, bB, bR, hB0⟩ := boxesQ w (.bool s) (.slice A l.length a) (.slice B k.length b) (.bool t) (.slice C l'.length c) (.slice D k'.length d) (.bool false) (.slice none 0 0) (.slice none 0 0)
  have hT := r6two_any (s := s) (t := t) (u1.below hB0) (u2.below hB0) (u3.below hB0) (u4.below hB0) (by omega) (by omega) (by omega) (by omega)
  rw [show qE s l k t l' k' = 0 from if_pos ⟨hp.ok, hq.ok⟩] at hT
  have HT := Lib.hid hT
  have HB0 := Lib.hid hB0
  have ht : t = true := by rw [hq.1]; exact decide_eq_true (by omega)
  have hlp : 0 < l'.length := by rw [hq.2.1]; exact len_pos.2 (by omega)
  have hz1 : ((l'.length : Int) == 0) = false := beq_eq_false_iff_ne.2 (by omega)
  have hz2 : decide (l'.length = 0) = false := decide_eq_false (by omega)
  obtain ⟨s1, l1, n1⟩ : ∃ s1 l1, Nm (p.num * (q.den : Int)) s1 l1 := ⟨_, _, Nm.mk' _⟩
  obtain ⟨S7, L7, n7⟩ : ∃ s1 l1, Nm (-(p.num * (q.den : Int))) s1 l1 := ⟨_, _, Nm.mk' _⟩
  have na := hq.num.abs
  have hdd : (0 : Int) < (p.den : Int) * ((q.num.natAbs : Nat) : Int) := by
    have := p.den_pos
    exact Int.mul_pos (by omega) (by omega)
  obtain ⟨l4, n4⟩ : ∃ m, Nm ((p.den : Int) * ((q.num.natAbs : Nat) : Int)) false m := ⟨_, (decide_eq_false (by omega)).symm, rfl⟩
  have m1 := lz_mul p.num (q.den : Int)
  have m4 := lz_mul (p.den : Int) ((q.num.natAbs : Nat) : Int)
  rw [← n1.len, ← hp.num.len, ← hq.den.len] at m1
  rw [← n4.len, ← hp.den.len, ← na.len] at m4
  have m7 : L7.length ≤ 700 := by rw [n7.len, Int.natAbs_neg, ← n1.len]; omega
  have C1 : Hid (∀ W, Below w.heap.size w W → Calls Tryz.prog 91 #[.agg #[.bool s, .slice A l.length a], .slice D k'.length d] W fun e w' => ∃ Av cv, e = .returned (.agg #[.bool s1, .slice Av l1.length cv]) ∧ U64s w' (new W.heap.size) Av cv l1 ∧ Below W.heap.size W w') := fun W h => r6times_n hp.num hq.den n1 rfl (by omega) (by omega) (u1.below h) (u4.below h)
  have C2 : Hid (∀ W Z A1 c1, U64s W Z A1 c1 l1 → Calls Tryz.prog 66 #[.agg #[.bool s1, .slice A1 l1.length c1]] W fun e w' => ∃ Av cv, e = .returned (.agg #[.bool S7, .slice Av L7.length cv]) ∧ U64s w' (new W.heap.size) Av cv L7 ∧ Below W.heap.size W w') := fun W Z A1 c1 h => r5turned_v n1 n7 rfl (by omega) h
  have C4 : Hid (∀ W, Below w.heap.size w W → Calls Tryz.prog 61 #[.slice B k.length b, .slice C l'.length c] W fun e w' => ∃ Av cv, e = .returned (.slice Av l4.length cv) ∧ U64s w' (new W.heap.size) Av cv l4 ∧ Below W.heap.size W w') := fun W h => rtimes_v hp.den na n4 rfl (by omega) (by omega) (u2.below h) (u3.below h)
  have C5 : Hid (∀ W Z Y A1 c1 A2 c2, U64s W Z A1 c1 L7 → U64s W Y A2 c2 l4 → Calls Tryz.prog 92 #[.agg #[.bool S7, .slice A1 L7.length c1], .slice A2 l4.length c2] W fun e w' => ∃ An cn Ad cd, e = .returned (.agg #[.bool r, .slice An la.length cn, .slice Ad ld.length cd]) ∧ U64s w' (new W.heap.size) An cn la ∧ U64s w' (new W.heap.size) Ad cd ld ∧ Below W.heap.size W w') := fun W Z Y A1 c1 A2 c2 h1 h2 => r6low_q n7 n4 hdd hz (by rw [div_neg h0, he]) (by omega) (by omega) h1 h2
  subst ht
  obtain ⟨a0, a1, a2, _, _, _, _⟩ := bA
  obtain ⟨b0, b1, b2, _, _, _, _⟩ := bB
  have BRx : Box3 _ (w.heap.size + 1 + 1) _ _ _ := bR
  clear u1 u2 u3 u4 q1 q2 q3 q4 hp hq hz he hB0 hT n1 n7 n4 na m1 m4 m7 hdd hlp h0 bR
  go_enter Tryz.func30, Tryz.ntmps30
  go_wp2_with fail
  refine HT.out.mono ?_
  rintro e w1 ⟨rfl, hc⟩
  replace a0 := keepC hc a0
  replace a1 := keepC hc a1
  replace a2 := keepC hc a2
  replace b0 := keepC hc b0
  replace b1 := keepC hc b1
  replace b2 := keepC hc b2
  have HR := Lib.hid (BRx.below hc)
  have hB1 := from_ HB0.out hc
  clear hc BRx HT
  go_wp2_with fail
  refine (C1.out _ hB1).mono ?_
  rintro e w2 ⟨A1, c1, rfl, v1, hc⟩
  have hal : Below w2.heap.size w2 (w2.alloc (.cells #[.bool s1, .slice A1 l1.length c1] 36)) := (Below.refl _ _).alloc (Nat.le_refl _) _
  have hcal := from_ hc hal
  replace a0 := keepC hcal a0
  replace a1 := keepC hcal a1
  replace a2 := keepC hcal a2
  replace b0 := keepC hcal b0
  replace b1 := keepC hcal b1
  replace b2 := keepC hcal b2
  have hgw : w.heap.size + 1 + 1 < w2.heap.size := (HR.out.below hc).lt
  replace HR := Lib.hid (HR.out.below hcal)
  replace v1 := v1.below hal
  have b7 := Box.new w2 (.bool s1) (.slice A1 l1.length c1) 36
  have hB2 := from_ hB1 hcal
  clear hc hal hcal
  obtain ⟨x7, y7, f7, g7', _⟩ := id b7
  go_wp2_with fail
  refine (C2.out _ _ _ _ v1).mono ?_
  rintro e w3 ⟨A7, c7, rfl, v7, hc⟩
  replace a2 := keepC hc a2
  replace b1 := keepC hc b1
  have b73 := b7.below hc
  have hB3 := from_ hB2 hc
  have hP7 := b73.put hB3 (by omega) (.bool S7) (.slice A7 L7.length c7)
  have lt3 : w.heap.size + 1 + 1 < w3.heap.size := (HR.out.below hc).lt
  have HR3 := HR.out.below hc
  have v7' := hP7.keep (B := (w2.alloc (.cells #[.bool s1, .slice A1 l1.length c1] 36)).heap.size) (by simp) (⟨A7, c7, rfl, v7⟩ : IsU w3 _ (.slice A7 L7.length c7) L7)
  have ne1 : w2.heap.size ≠ w.heap.size := by omega
  have ne2 : w2.heap.size ≠ w.heap.size + 1 := by omega
  have ne3 : w2.heap.size ≠ w.heap.size + 1 + 1 := by omega
  have hs0 := And.intro (stQ2 (x := .bool S7) (y := .slice A7 L7.length c7) a2 ne1) (And.intro (stQ2 (x := .bool S7) (y := .slice A7 L7.length c7) b1 ne2) (And.intro hP7.c0 hP7.c1))
  have HRn : Box3 ((w3.setCell ⟨w2.heap.size, 0, none⟩ (.bool S7)).setCell ⟨w2.heap.size, 1, none⟩ (.slice A7 L7.length c7)) (w.heap.size + 1 + 1) (.bool false) (.slice none 0 0) (.slice none 0 0) := ⟨stQ2 HR3.c0 ne3, stQ2 HR3.c1 ne3, stQ2 HR3.c2 ne3, (World.frozen?_setCell _ _ _ _).trans ((World.frozen?_setCell _ _ _ _).trans HR3.f0), (World.frozen?_setCell _ _ _ _).trans ((World.frozen?_setCell _ _ _ _).trans HR3.f1), (World.frozen?_setCell _ _ _ _).trans ((World.frozen?_setCell _ _ _ _).trans HR3.f2), by have := HR3.lt; simpa [World.setCell] using this⟩
  have HB7 := Lib.hid hP7.bel
  have HS0 := Lib.hid hs0
  have HV7 := Lib.hid v7'
  obtain ⟨x7, y7, f7, g7', _⟩ := id b73
  clear hc hs0 v7' hP7 v7 HR HR3 b7 hB2 v1 hB3 b73
  have HRN := Lib.hid HRn
  clear HRn
  go_upto_region 9 with fail
  generalize hV : (w3.setCell ⟨w2.heap.size, 0, none⟩ (.bool S7)).setCell ⟨w2.heap.size, 1, none⟩ (.slice A7 L7.length c7) = V at *
  clear hV x7 y7 f7 g7'
  have hs := keep4 HS0.out (Below.refl _ V).drew
  have Hc := Lib.hid HB7.out.drew
  have HR := Lib.hid (HRN.out.below (Below.refl _ V).drew)
  obtain ⟨A8, c8, e8, v8⟩ := HV7.out
  injection e8 with e81 _ e83
  subst e81 e83
  have v7 := v8.below (Below.refl _ V).drew
  generalize hg7 : w2.heap.size = g7 at *
  generalize hgR : w.heap.size + 1 + 1 = gR at *
  have N1 := Lib.hid (show gR ≠ w.heap.size by omega)
  have N2 := Lib.hid (show gR ≠ w.heap.size + 1 by omega)
  have N3 := Lib.hid (show w.heap.size ≤ gR by omega)
  have N7 := Lib.hid (show gR ≠ g7 by omega)
  clear hgR hg7
  first | go_region_held3 (fun w' => w'.cell? ⟨w.heap.size, 2, none⟩ = some (.slice B k.length b) ∧ w'.cell? ⟨(w.heap.size + 1), 1, none⟩ = some (.slice C l'.length c) ∧ w'.cell? ⟨g7, 0, none⟩ = some (.bool S7) ∧ w'.cell? ⟨g7, 1, none⟩ = some (.slice A7 L7.length c7))
    (first
      | with_reducible exact hs
      | with_reducible exact st4P N1.out N2.out N7.out hs)
    (first
      | (go_at_call 61; with_reducible refine (C4.out _ Hc.out).mono ?_; rintro e w' ⟨A6, c6, rfl, vt, hc⟩; replace hs := keep4 hs hc; have Hp := Hc; replace Hc := Lib.hid (from_ Hc.out hc); have zl := HR.out.lt; replace HR := Lib.hid (HR.out.below hc); (try replace v7 := v7.below hc))
      | (go_at_call 92; with_reducible refine (C5.out _ _ _ _ _ _ _ v7 vt).mono ?_; rintro e w' ⟨An, cn, Ad, cd, rfl, v3, v4, hc⟩; replace hs := keep4 hs hc; have Hp := Hc; replace Hc := Lib.hid (from_ Hc.out hc); have zl := HR.out.lt; replace HR := Lib.hid (HR.out.below hc); obtain ⟨qq0, qq1, qq2, ff0, ff1, ff2, _⟩ := id HR.out)) | fail
  all_goals
    have HP := Lib.hid (HR.out.put Hc.out N3.out (.bool r) (.slice An la.length cn) (.slice Ad ld.length cd))
    have HN5 := Lib.hid ((HP.out.keep (fun (h : _ ≤ gR) => by omega) v3).mono (Y := new w.heap.size) (new_le Hp.out.size))
    have HD5 := Lib.hid ((HP.out.keep (fun (h : _ ≤ gR) => by omega) v4).mono (Y := new w.heap.size) (new_le Hp.out.size))
    clear v3 v4
    go_wp2
    refine bodyPost_ret (res_rat2 rfl _ gR rfl HP.out.c0 HP.out.c1 HP.out.c2) rfl ?_
    exact ⟨_, _, _, _, rfl, HN5.out, HD5.out, HP.out.bel⟩

theorem cmp_val (p q : Rat) : sgn (p.num * (q.den : Int) - q.num * (p.den : Int)) = sgn (p - q).num := by
  have h := rat_add p (-q)
  rw [Rat.neg_num, Rat.neg_den, ← Rat.sub_eq_add_neg] at h
  rw [← h, sgn_divInt den_mul, Int.neg_mul, Int.sub_eq_add_neg]
set_option maxRecDepth 100000 in
set_option maxHeartbeats 4000000 in
theorem r6compared_q {w : World} {Z1 Z2 Z3 Z4 : Zone} {s t : Bool} {l k l' k' : List Nat} {A B C D : Option Addr} {a b c d : Nat} {p q : Rat} {g : Int} (hp : NmQ p s l k) (hq : NmQ q t l' k') (hg : sgn (p - q).num = g) (u1 : U64s w Z1 A a l) (u2 : U64s w Z2 B b k) (u3 : U64s w Z3 C c l') (u4 : U64s w Z4 D d k') (q1 : l.length ≤ 300) (q2 : k.length ≤ 300) (q3 : l'.length ≤ 300) (q4 : k'.length ≤ 300) :
    Calls Tryz.prog 94 #[.agg #[.bool s, .slice A l.length a, .slice B k.length b], .agg #[.bool t, .slice C l'.length c, .slice D k'.length d]] w fun e w' => e = .returned (.int .i64 g) ∧ Below w.heap.size w w' := by
  obtain ⟨bA, bB, hB0⟩ := boxes2Q w (.bool s) (.slice A l.length a) (.slice B k.length b) (.bool t) (.slice C l'.length c) (.slice D k'.length d)
  obtain ⟨s1, l1, n1⟩ : ∃ s1 l1, Nm (p.num * (q.den : Int)) s1 l1 := ⟨_, _, Nm.mk' _⟩
  obtain ⟨s2, l2, n2⟩ : ∃ s2 l2, Nm (q.num * (p.den : Int)) s2 l2 := ⟨_, _, Nm.mk' _⟩
  have m1 := lz_mul p.num (q.den : Int)
  have m2 := lz_mul q.num (p.den : Int)
  rw [← n1.len, ← hp.num.len, ← hq.den.len] at m1
  rw [← n2.len, ← hq.num.len, ← hp.den.len] at m2
  have C1 : Hid (∀ W, Below w.heap.size w W → Calls Tryz.prog 91 #[.agg #[.bool s, .slice A l.length a], .slice D k'.length d] W fun e w' => ∃ Av cv, e = .returned (.agg #[.bool s1, .slice Av l1.length cv]) ∧ U64s w' (new W.heap.size) Av cv l1 ∧ Below W.heap.size W w') := fun W h => r6times_n hp.num hq.den n1 rfl (by omega) (by omega) (u1.below h) (u4.below h)
  have C2 : Hid (∀ W, Below w.heap.size w W → Calls Tryz.prog 91 #[.agg #[.bool t, .slice C l'.length c], .slice B k.length b] W fun e w' => ∃ Av cv, e = .returned (.agg #[.bool s2, .slice Av l2.length cv]) ∧ U64s w' (new W.heap.size) Av cv l2 ∧ Below W.heap.size W w') := fun W h => r6times_n hq.num hp.den n2 rfl (by omega) (by omega) (u3.below h) (u2.below h)
  have C3 : Hid (∀ W Z Y A1 c1 A2 c2, U64s W Z A1 c1 l1 → U64s W Y A2 c2 l2 → Calls Tryz.prog 68 #[.agg #[.bool s1, .slice A1 l1.length c1], .agg #[.bool s2, .slice A2 l2.length c2]] W fun e w' => e = .returned (.int .i64 g) ∧ Below W.heap.size W w') := fun W Z Y A1 c1 A2 c2 h1 h2 => r5compared_w n1 n2 ((cmp_val p q).trans hg) (by omega) (by omega) h1 h2
  have hs0 := And.intro bA.c0 (And.intro bA.c1 (And.intro bA.c2 (And.intro bB.c0 (And.intro bB.c1 bB.c2))))
  have hs := boxQ_keep hs0 (Below.refl _ _).drew
  have Hc := Lib.hid hB0.drew
  obtain ⟨a0, a1, a2, _, _, _, _⟩ := bA
  obtain ⟨b0, b1, b2, _, _, _, _⟩ := bB
  clear u1 u2 u3 u4 q1 q2 q3 q4 hp hq hg n1 n2 m1 m2 hB0 hs0
  go_enter Tryz.func94, Tryz.ntmps94
  go_wp2
  first | go_region_held3 (fun w' => w'.cell? ⟨w.heap.size, 0, none⟩ = some (.bool s) ∧ w'.cell? ⟨w.heap.size, 1, none⟩ = some (.slice A l.length a) ∧ w'.cell? ⟨w.heap.size, 2, none⟩ = some (.slice B k.length b) ∧ w'.cell? ⟨(w.heap.size + 1), 0, none⟩ = some (.bool t) ∧ w'.cell? ⟨(w.heap.size + 1), 1, none⟩ = some (.slice C l'.length c) ∧ w'.cell? ⟨(w.heap.size + 1), 2, none⟩ = some (.slice D k'.length d))
    (first
      | with_reducible exact hs)
    (first
      | (go_at_call 91; with_reducible refine (C1.out _ Hc.out).mono ?_; rintro e w' ⟨A1, c1, rfl, v1, hc⟩; replace hs := boxQ_keep hs hc; replace Hc := Lib.hid (from_ Hc.out hc); (try replace v2 := v2.below hc))
      | (go_at_call 91; with_reducible refine (C2.out _ Hc.out).mono ?_; rintro e w' ⟨A2, c2, rfl, v2, hc⟩; replace hs := boxQ_keep hs hc; replace Hc := Lib.hid (from_ Hc.out hc); (try replace v1 := v1.below hc))
      | (go_at_call 68; with_reducible refine (C3.out _ _ _ _ _ _ _ v1 v2).mono ?_; rintro e w' ⟨rfl, hc⟩; replace hs := boxQ_keep hs hc; replace Hc := Lib.hid (from_ Hc.out hc))) | fail
  all_goals
    go_wp2
    go_ret
    exact ⟨rfl, Hc.out⟩

set_option maxRecDepth 100000 in
set_option maxHeartbeats 4000000 in
theorem r6cmp_ok {w : World} {Z1 Z2 Z3 Z4 : Zone} {s t : Bool} {l k l' k' : List Nat} {A B C D : Option Addr} {a b c d : Nat} {p q : Rat} {g : Int} (hp : NmQ p s l k) (hq : NmQ q t l' k') (hg : sgn (p - q).num = g) (u1 : U64s w Z1 A a l) (u2 : U64s w Z2 B b k) (u3 : U64s w Z3 C c l') (u4 : U64s w Z4 D d k') (q1 : l.length ≤ 300) (q2 : k.length ≤ 300) (q3 : l'.length ≤ 300) (q4 : k'.length ≤ 300) :
    Calls Tryz.prog 32 #[.agg #[.bool s, .slice A l.length a, .slice B k.length b], .agg #[.bool t, .slice C l'.length c, .slice D k'.length d]] w fun e w' => e = .returned (.tuple #[.int .i64 g, .int .i64 0]) ∧ Below w.heap.size w w' := by
  obtain ⟨bA, bB, hB0⟩ := boxes2Q w (.bool s) (.slice A l.length a) (.slice B k.length b) (.bool t) (.slice C l'.length c) (.slice D k'.length d)
  have hT := r6two_any (s := s) (t := t) (u1.below hB0) (u2.below hB0) (u3.below hB0) (u4.below hB0) q1 q2 q3 q4
  rw [show qE s l k t l' k' = 0 from if_pos ⟨hp.ok, hq.ok⟩] at hT
  have HT := Lib.hid hT
  have HB0 := Lib.hid hB0
  have CC : Hid (∀ W, Below w.heap.size w W → Calls Tryz.prog 94 #[.agg #[.bool s, .slice A l.length a, .slice B k.length b], .agg #[.bool t, .slice C l'.length c, .slice D k'.length d]] W fun e w' => e = .returned (.int .i64 g) ∧ Below W.heap.size W w') := fun W h => r6compared_q hp hq hg (u1.below h) (u2.below h) (u3.below h) (u4.below h) q1 q2 q3 q4
  obtain ⟨a0, a1, a2, _, _, _, _⟩ := bA
  obtain ⟨b0, b1, b2, _, _, _, _⟩ := bB
  clear u1 u2 u3 u4 q1 q2 q3 q4 hB0 hT hp hq hg
  generalize l.length = L1 at *
  generalize k.length = L2 at *
  generalize l'.length = L3 at *
  generalize k'.length = L4 at *
  go_enter Tryz.func32, Tryz.ntmps32
  go_wp2_with fail
  refine HT.out.mono ?_
  rintro e w1 ⟨rfl, hc⟩
  replace a0 := keepC hc a0
  replace a1 := keepC hc a1
  replace a2 := keepC hc a2
  replace b0 := keepC hc b0
  replace b1 := keepC hc b1
  replace b2 := keepC hc b2
  have hB1 := from_ HB0.out hc
  clear hc
  go_wp2_with fail
  refine (CC.out _ hB1).mono ?_
  rintro e w2 ⟨rfl, hc⟩
  have hB2 := from_ hB1 hc
  go_wp2
  go_ret2
  exact ⟨rfl, hB2⟩

set_option maxRecDepth 100000 in
set_option maxHeartbeats 4000000 in
theorem r6cmp_err {w : World} {Z1 Z2 Z3 Z4 : Zone} {s t : Bool} {l k l' k' : List Nat} {A B C D : Option Addr} {a b c d : Nat}  (u1 : U64s w Z1 A a l) (u2 : U64s w Z2 B b k) (u3 : U64s w Z3 C c l') (u4 : U64s w Z4 D d k') (q1 : l.length ≤ 300) (q2 : k.length ≤ 300) (q3 : l'.length ≤ 300) (q4 : k'.length ≤ 300) (ho : ¬ (okQ s l k = true ∧ okQ t l' k' = true)) :
    Calls Tryz.prog 32 #[.agg #[.bool s, .slice A l.length a, .slice B k.length b], .agg #[.bool t, .slice C l'.length c, .slice D k'.length d]] w fun e w' => e = .returned (.tuple #[.int .i64 0, .int .i64 8]) ∧ Below w.heap.size w w' := by
  obtain ⟨bA, bB, hB0⟩ := boxes2Q w (.bool s) (.slice A l.length a) (.slice B k.length b) (.bool t) (.slice C l'.length c) (.slice D k'.length d)
  have hT := r6two_any (s := s) (t := t) (u1.below hB0) (u2.below hB0) (u3.below hB0) (u4.below hB0) q1 q2 q3 q4
  rw [show qE s l k t l' k' = 8 from if_neg ho] at hT
  have HT := Lib.hid hT
  have HB0 := Lib.hid hB0
  obtain ⟨a0, a1, a2, _, _, _, _⟩ := bA
  obtain ⟨b0, b1, b2, _, _, _, _⟩ := bB
  clear u1 u2 u3 u4 q1 q2 q3 q4 hB0 hT ho
  generalize l.length = L1 at *
  generalize k.length = L2 at *
  generalize l'.length = L3 at *
  generalize k'.length = L4 at *
  go_enter Tryz.func32, Tryz.ntmps32
  go_wp2_with fail
  refine HT.out.mono ?_
  rintro e w1 ⟨rfl, hc⟩
  replace a0 := keepC hc a0
  replace a1 := keepC hc a1
  replace a2 := keepC hc a2
  replace b0 := keepC hc b0
  replace b1 := keepC hc b1
  replace b2 := keepC hc b2
  have hB1 := from_ HB0.out hc
  clear hc
  go_wp2
  go_ret2
  exact ⟨rfl, hB1⟩

set_option maxRecDepth 100000 in
set_option maxHeartbeats 4000000 in
theorem r6floor_err {w : World} {Z1 Z2 : Zone} {s : Bool} {l k : List Nat} {A B : Option Addr} {a b : Nat} (u1 : U64s w Z1 A a l) (u2 : U64s w Z2 B b k) (q1 : l.length ≤ 300) (q2 : k.length ≤ 300) (ho : okQ s l k = false) :
    Calls Tryz.prog 35 #[.agg #[.bool s, .slice A l.length a, .slice B k.length b]] w fun e w' => e = .returned (.tuple #[.agg #[.bool false, .slice none 0 0], .int .i64 8]) ∧ Below w.heap.size w w' := by
  have hB := box_rat w (.bool s) (.slice A l.length a) (.slice B k.length b)
  have bA := (Box3.new w (.bool s) (.slice A l.length a) (.slice B k.length b) 48).alloc (.cells #[.bool false, .slice none 0 0] 36)
  have bR := Box.new (w.alloc (.cells #[.bool s, .slice A l.length a, .slice B k.length b] 48)) (.bool false) (.slice none 0 0) 36
  have hB0 := hB.alloc hB.size (.cells #[.bool false, .slice none 0 0] 36)
  rw [show (w.alloc (.cells #[.bool s, .slice A l.length a, .slice B k.length b] 48)).heap.size = w.heap.size + 1 by simp] at bR
  have hM := r6may_any (s := s) (u1.below hB0) (u2.below hB0) q1 q2
  rw [ho] at hM
  have HM := Lib.hid hM
  obtain ⟨a0, a1, a2, _, _, _, _⟩ := bA
  clear hM u1 u2 q1 q2 ho
  generalize l.length = L1 at *
  generalize k.length = L2 at *
  go_enter Tryz.func35, Tryz.ntmps35
  go_wp2_with fail
  refine HM.out.mono ?_
  rintro e w1 ⟨rfl, hc⟩
  have bR1 := bR.below hc
  have HP := Lib.hid (bR1.put (from_ hB0 hc) (by omega) (.bool false) (.slice none 0 0))
  obtain ⟨q0, q1, f0, f1, _⟩ := bR1
  clear bR hc a0 a1 a2
  go_wp2
  refine bodyPost_ret (res_int2 rfl _ (w.heap.size + 1) rfl HP.out.c0 HP.out.c1) rfl ?_
  exact ⟨rfl, HP.out.bel⟩

set_option maxRecDepth 100000 in
set_option maxHeartbeats 4000000 in
theorem r6floor_ok {w : World} {Z1 Z2 : Zone} {s : Bool} {l k : List Nat} {A B : Option Addr} {a b : Nat} {r : Bool} {m : List Nat} {p : Rat} (hp : NmQ p s l k) (hz : Nm (rq p.num (p.den : Int) true) r m) (u1 : U64s w Z1 A a l) (u2 : U64s w Z2 B b k) (q1 : l.length ≤ 300) (q2 : k.length ≤ 300) :
    Calls Tryz.prog 35 #[.agg #[.bool s, .slice A l.length a, .slice B k.length b]] w fun e w' => ∃ Av cv, e = .returned (.tuple #[.agg #[.bool r, .slice Av m.length cv], .int .i64 0]) ∧ U64s w' (new w.heap.size) Av cv m ∧ Below w.heap.size w w' := by
  have hB := box_rat w (.bool s) (.slice A l.length a) (.slice B k.length b)
  have bA := (Box3.new w (.bool s) (.slice A l.length a) (.slice B k.length b) 48).alloc (.cells #[.bool false, .slice none 0 0] 36)
  have bR := Box.new (w.alloc (.cells #[.bool s, .slice A l.length a, .slice B k.length b] 48)) (.bool false) (.slice none 0 0) 36
  have hB0 := hB.alloc hB.size (.cells #[.bool false, .slice none 0 0] 36)
  rw [show (w.alloc (.cells #[.bool s, .slice A l.length a, .slice B k.length b] 48)).heap.size = w.heap.size + 1 by simp] at bR
  have hM := r6may_any (s := s) (u1.below hB0) (u2.below hB0) q1 q2
  rw [hp.ok] at hM
  have HM := Lib.hid hM
  have CD : Hid (∀ W, Below w.heap.size w W → Calls Tryz.prog 65 #[.agg #[.bool s, .slice A l.length a], .agg #[.bool false, .slice B k.length b]] W fun e w' => ∃ Av cv, e = .returned (.agg #[.bool r, .slice Av m.length cv]) ∧ U64s w' (new W.heap.size) Av cv m ∧ Below W.heap.size W w') := fun W h => r5down_n hp.num hp.den hz rfl (by have := p.den_pos; omega) (by omega) (by omega) (u1.below h) (u2.below h)
  obtain ⟨a0, a1, a2, _, _, _, _⟩ := bA
  clear hM u1 u2 q1 q2 hp hz
  generalize l.length = L1 at *
  generalize k.length = L2 at *
  go_enter Tryz.func35, Tryz.ntmps35
  go_wp2_with fail
  refine HM.out.mono ?_
  rintro e w1 ⟨rfl, hc⟩
  replace a0 := keepC hc a0
  replace a1 := keepC hc a1
  replace a2 := keepC hc a2
  have bR1 := bR.below hc
  have hB1 := from_ hB0 hc
  clear bR hc
  go_wp2_with fail
  refine (CD.out _ hB1).mono ?_
  rintro e w2 ⟨Av, cv, rfl, hv, hc⟩
  have zl := bR1.lt
  have bR2 := bR1.below hc
  have HP := Lib.hid (bR2.put (from_ hB1 hc) (by omega) (.bool r) (.slice Av m.length cv))
  have Hu := Lib.hid (HP.out.keep (B := w1.heap.size) zl (⟨Av, cv, rfl, hv⟩ : IsU w2 _ (.slice Av m.length cv) m))
  obtain ⟨q0, q1, f0, f1, _⟩ := bR2
  clear hv zl hc
  go_wp2
  refine bodyPost_ret (res_int2 rfl _ (w.heap.size + 1) rfl HP.out.c0 HP.out.c1) rfl ?_
  obtain ⟨A', c', e', h'⟩ := Hu.out
  injection e' with e1 e2 e3
  subst e1 e3
  exact ⟨_, _, rfl, h', HP.out.bel⟩

set_option maxRecDepth 100000 in
set_option maxHeartbeats 4000000 in
theorem r6ceil_err {w : World} {Z1 Z2 : Zone} {s : Bool} {l k : List Nat} {A B : Option Addr} {a b : Nat} (u1 : U64s w Z1 A a l) (u2 : U64s w Z2 B b k) (q1 : l.length ≤ 300) (q2 : k.length ≤ 300) (ho : okQ s l k = false) :
    Calls Tryz.prog 37 #[.agg #[.bool s, .slice A l.length a, .slice B k.length b]] w fun e w' => e = .returned (.tuple #[.agg #[.bool false, .slice none 0 0], .int .i64 8]) ∧ Below w.heap.size w w' := by
  have hB := box_rat w (.bool s) (.slice A l.length a) (.slice B k.length b)
  have bA := (Box3.new w (.bool s) (.slice A l.length a) (.slice B k.length b) 48).alloc (.cells #[.bool false, .slice none 0 0] 36)
  have bR := Box.new (w.alloc (.cells #[.bool s, .slice A l.length a, .slice B k.length b] 48)) (.bool false) (.slice none 0 0) 36
  have hB0 := hB.alloc hB.size (.cells #[.bool false, .slice none 0 0] 36)
  rw [show (w.alloc (.cells #[.bool s, .slice A l.length a, .slice B k.length b] 48)).heap.size = w.heap.size + 1 by simp] at bR
  have hM := r6may_any (s := s) (u1.below hB0) (u2.below hB0) q1 q2
  rw [ho] at hM
  have HM := Lib.hid hM
  obtain ⟨a0, a1, a2, _, _, _, _⟩ := bA
  clear hM u1 u2 q1 q2 ho
  generalize l.length = L1 at *
  generalize k.length = L2 at *
  go_enter Tryz.func37, Tryz.ntmps37
  go_wp2_with fail
  refine HM.out.mono ?_
  rintro e w1 ⟨rfl, hc⟩
  have bR1 := bR.below hc
  have HP := Lib.hid (bR1.put (from_ hB0 hc) (by omega) (.bool false) (.slice none 0 0))
  obtain ⟨q0, q1, f0, f1, _⟩ := bR1
  clear bR hc a0 a1 a2
  go_wp2
  refine bodyPost_ret (res_int2 rfl _ (w.heap.size + 1) rfl HP.out.c0 HP.out.c1) rfl ?_
  exact ⟨rfl, HP.out.bel⟩

set_option maxRecDepth 100000 in
set_option maxHeartbeats 4000000 in
theorem r6ceil_ok {w : World} {Z1 Z2 : Zone} {s : Bool} {l k : List Nat} {A B : Option Addr} {a b : Nat} {r : Bool} {m : List Nat} {p : Rat} (hp : NmQ p s l k) (hz : Nm (rq p.num (p.den : Int) false) r m) (u1 : U64s w Z1 A a l) (u2 : U64s w Z2 B b k) (q1 : l.length ≤ 300) (q2 : k.length ≤ 300) :
    Calls Tryz.prog 37 #[.agg #[.bool s, .slice A l.length a, .slice B k.length b]] w fun e w' => ∃ Av cv, e = .returned (.tuple #[.agg #[.bool r, .slice Av m.length cv], .int .i64 0]) ∧ U64s w' (new w.heap.size) Av cv m ∧ Below w.heap.size w w' := by
  have hB := box_rat w (.bool s) (.slice A l.length a) (.slice B k.length b)
  have bA := (Box3.new w (.bool s) (.slice A l.length a) (.slice B k.length b) 48).alloc (.cells #[.bool false, .slice none 0 0] 36)
  have bR := Box.new (w.alloc (.cells #[.bool s, .slice A l.length a, .slice B k.length b] 48)) (.bool false) (.slice none 0 0) 36
  have hB0 := hB.alloc hB.size (.cells #[.bool false, .slice none 0 0] 36)
  rw [show (w.alloc (.cells #[.bool s, .slice A l.length a, .slice B k.length b] 48)).heap.size = w.heap.size + 1 by simp] at bR
  have hM := r6may_any (s := s) (u1.below hB0) (u2.below hB0) q1 q2
  rw [hp.ok] at hM
  have HM := Lib.hid hM
  have hd0 : (p.den : Int) ≠ 0 := by have := p.den_pos; omega
  have hneg : -(rq (-p.num) (p.den : Int) true) = rq p.num (p.den : Int) false := by
    rcases rounds_plain (x := p.num) hd0 with ⟨_, _, h1, h2, _⟩ | ⟨_, _, h1, h2, _⟩
    · rw [h1, h2]
    · rw [h1, h2]
  obtain ⟨sn, ln, nn⟩ : ∃ s' l', Nm (-p.num) s' l' := ⟨_, _, Nm.mk' _⟩
  obtain ⟨sq, lq, nq⟩ : ∃ s' l', Nm (rq (-p.num) (p.den : Int) true) s' l' := ⟨_, _, Nm.mk' _⟩
  have hln : ln.length ≤ 9000 := by rw [nn.len, Int.natAbs_neg, ← hp.num.len]; omega
  have hlq : lq.length ≤ 10000 := by
    rw [nq.len]
    have := len_rq (-p.num) (p.den : Int) true
    rw [Int.natAbs_neg, ← hp.num.len] at this
    omega
  have T1 : Hid (∀ W, Below w.heap.size w W → Calls Tryz.prog 66 #[.agg #[.bool s, .slice A l.length a]] W fun e w' => ∃ Av cv, e = .returned (.agg #[.bool sn, .slice Av ln.length cv]) ∧ U64s w' (new W.heap.size) Av cv ln ∧ Below W.heap.size W w') := fun W h => r5turned_v hp.num nn rfl (by omega) (u1.below h)
  have CD : Hid (∀ W Z A1 c1, Below w.heap.size w W → U64s W Z A1 c1 ln → Calls Tryz.prog 65 #[.agg #[.bool sn, .slice A1 ln.length c1], .agg #[.bool false, .slice B k.length b]] W fun e w' => ∃ Av cv, e = .returned (.agg #[.bool sq, .slice Av lq.length cv]) ∧ U64s w' (new W.heap.size) Av cv lq ∧ Below W.heap.size W w') := fun W Z A1 c1 h hu => r5down_n nn hp.den nq rfl hd0 hln (by omega) hu (u2.below h)
  have T2 : Hid (∀ W Z A1 c1, U64s W Z A1 c1 lq → Calls Tryz.prog 66 #[.agg #[.bool sq, .slice A1 lq.length c1]] W fun e w' => ∃ Av cv, e = .returned (.agg #[.bool r, .slice Av m.length cv]) ∧ U64s w' (new W.heap.size) Av cv m ∧ Below W.heap.size W w') := fun W Z A1 c1 hu => r5turned_v nq hz hneg hlq hu
  have hs0 := And.intro bA.c0 (And.intro bA.c1 bA.c2)
  have HS := Lib.hid hs0
  have HR0 := Lib.hid bR
  have HB0 := Lib.hid hB0
  obtain ⟨a0, a1, a2, _, _, _, _⟩ := bA
  clear hM u1 u2 q1 q2 hp hz hneg nn nq hln hlq hd0 bR hB0 hs0 hB
  go_enter Tryz.func37, Tryz.ntmps37
  go_wp2_with fail
  refine HM.out.mono ?_
  rintro e w1 ⟨rfl, hc⟩
  have hs := keep3P (keep3P HS.out hc) (Below.refl _ _).drew
  have Hc := Lib.hid ((from_ HB0.out hc).drew)
  have HR := Lib.hid ((HR0.out.below hc).below (Below.refl _ _).drew)
  clear a0 a1 a2 HS HB0 HR0 HM hc
  go_wp2
  have N1 := Lib.hid (show w.heap.size + 1 ≠ w.heap.size by omega)
  first | go_region_held3 (fun w' => w'.cell? ⟨w.heap.size, 0, none⟩ = some (.bool s) ∧ w'.cell? ⟨w.heap.size, 1, none⟩ = some (.slice A l.length a) ∧ w'.cell? ⟨w.heap.size, 2, none⟩ = some (.slice B k.length b))
    (first
      | with_reducible exact hs
      | with_reducible exact stI N1.out hs)
    (first
      | (go_at_call 66; with_reducible refine (T1.out _ Hc.out).mono ?_; rintro e w' ⟨A1, c1, rfl, v1, hc⟩; replace hs := keep3P hs hc; replace Hc := Lib.hid (from_ Hc.out hc); have zl := HR.out.lt; replace HR := Lib.hid (HR.out.below hc))
      | (go_at_call 65; with_reducible refine (CD.out _ _ _ _ Hc.out v1).mono ?_; rintro e w' ⟨A2, c2, rfl, v2, hc⟩; replace hs := keep3P hs hc; replace Hc := Lib.hid (from_ Hc.out hc); have zl := HR.out.lt; replace HR := Lib.hid (HR.out.below hc))
      | (go_at_call 66; with_reducible refine (T2.out _ _ _ _ v2).mono ?_; rintro e w' ⟨Av, cv, rfl, v3, hc⟩; replace hs := keep3P hs hc; replace Hc := Lib.hid (from_ Hc.out hc); have zl := HR.out.lt; replace HR := Lib.hid (HR.out.below hc); obtain ⟨qq0, qq1, ff0, ff1, _⟩ := id HR.out)) | fail
  all_goals
    have HP := Lib.hid (HR.out.put Hc.out (by omega) (.bool r) (.slice Av m.length cv))
    have hiv : IsU _ _ (.slice Av m.length cv) m := ⟨Av, cv, rfl, v3⟩
    have Hu := Lib.hid (HP.out.keep zl hiv)
    clear hiv v3
    go_wp2
    refine bodyPost_ret (res_int2 rfl _ (w.heap.size + 1) rfl HP.out.c0 HP.out.c1) rfl ?_
    obtain ⟨A', c', e', h'⟩ := Hu.out
    injection e' with e1 e2 e3
    subst e1 e3
    exact ⟨_, _, rfl, h', HP.out.bel⟩

end Go.Proofs.YtceenaegchlbcaaGreatDoor
