/-
  Fractions by name: the fraction that a sign and words are; rat.Of of numbers; rat.Check at any words. No conditions but bounds on lengths.
  Fractions: rat.sum, product, den, neg; rat.checked of fractions. No conditions but bounds on lengths.
-/
import Derived.Test.YtceenaegchlbcaaGreatDoorERatB
import Derived.Test.YtceenaegchlbcaaGreatDoorEWhU
import Derived.Test.YtceenaegchlbcaaGreatDoorEWhJ
namespace Go.Proofs.YtceenaegchlbcaaGreatDoor
open Go.RowKit
set_option linter.unusedVariables false
set_option linter.unusedSimpArgs false

/-- A sign and words are the fraction q's. -/
def NmQ (q : Rat) (s : Bool) (l k : List Nat) : Prop := s = decide (q.num < 0) ∧ l = limbs q.num.natAbs ∧ k = limbs q.den
theorem NmQ.mk' (q : Rat) : NmQ q (decide (q.num < 0)) (limbs q.num.natAbs) (limbs q.den) := ⟨rfl, rfl, rfl⟩
theorem NmQ.num {q : Rat} {s : Bool} {l k : List Nat} (h : NmQ q s l k) : Nm q.num s l := ⟨h.1, h.2.1⟩
theorem NmQ.den {q : Rat} {s : Bool} {l k : List Nat} (h : NmQ q s l k) : Nm (q.den : Int) false k := ⟨(decide_eq_false (by omega)).symm, by rw [h.2.2, Int.natAbs_natCast]⟩
theorem NmQ.pos {q : Rat} {s : Bool} {l k : List Nat} (h : NmQ q s l k) : 0 < k.length := by rw [h.2.2]; exact len_pos.2 q.den_nz
theorem NmQ.uniq {p q : Rat} {s : Bool} {l k : List Nat} (h : NmQ p s l k) (h' : NmQ q s l k) : p = q := by
  obtain ⟨h1, h2, h3⟩ := h
  obtain ⟨g1, g2, g3⟩ := h'
  have e1 : p.num.natAbs = q.num.natAbs := limbs_inj (h2.symm.trans g2)
  have e2 : p.den = q.den := limbs_inj (h3.symm.trans g3)
  have e3 : (p.num < 0) ↔ (q.num < 0) := decide_eq_decide.1 (h1.symm.trans g1)
  exact Rat.ext (by omega) e2
theorem Nm.okI {x : Int} {s : Bool} {l : List Nat} (h : Nm x s l) : okI s l = true := by
  obtain ⟨rfl, rfl⟩ := h
  exact IsZ.ok x
theorem Nm.val {x : Int} {s : Bool} {l : List Nat} (h : Nm x s l) : val l = x.natAbs := by rw [h.2, val_limbs]

/-- May a fraction be? -/
def okQ (s : Bool) (l k : List Nat) : Bool := okI s l && (good k && (decide (0 < k.length) && decide (Nat.gcd (val l) (val k) = 1)))
def errF (s : Bool) (l k : List Nat) : Int := if okQ s l k = true then 0 else 8
theorem okQ_iff {s : Bool} {l k : List Nat} : okQ s l k = true ↔ okI s l = true ∧ good k = true ∧ 0 < k.length ∧ Nat.gcd (val l) (val k) = 1 := by
  unfold okQ
  rw [Bool.and_eq_true, Bool.and_eq_true, Bool.and_eq_true, decide_eq_true_iff, decide_eq_true_iff]
theorem NmQ.ok {q : Rat} {s : Bool} {l k : List Nat} (h : NmQ q s l k) : okQ s l k = true := by
  refine okQ_iff.2 ⟨h.num.okI, by rw [h.2.2]; exact good_limbs _, h.pos, ?_⟩
  rw [h.2.1, h.2.2, val_limbs, val_limbs]
  exact q.reduced
theorem okQ_nm {s : Bool} {l k : List Nat} (h : okQ s l k = true) (hs : Small l) (hk : Small k) : ∃ q, NmQ q s l k := by
  obtain ⟨h1, h2, h3, h4⟩ := okQ_iff.1 h
  obtain ⟨e1, e2⟩ := zof_enc h1 hs
  have e3 : (zof s l).natAbs = val l := by rw [← val_limbs (zof s l).natAbs, e2]
  have hp := val_pos_of hk h2 h3
  exact ⟨⟨zof s l, val k, by omega, by show Nat.gcd (zof s l).natAbs (val k) = 1; rw [e3]; exact h4⟩, e1.symm, e2.symm, (limbs_val k hk h2).symm⟩

/-- The fraction of two numbers. -/
theorem divInt_parts {x y : Int} (hy : y ≠ 0) :
    (Rat.divInt x y).num.natAbs = x.natAbs / Nat.gcd x.natAbs y.natAbs ∧ (Rat.divInt x y).den = y.natAbs / Nat.gcd x.natAbs y.natAbs ∧ ((Rat.divInt x y).num < 0 ↔ ((x < 0 ∧ 0 < y) ∨ (0 < x ∧ y < 0))) := by
  have hg : 0 < Nat.gcd x.natAbs y.natAbs := Nat.gcd_pos_of_pos_right _ (by omega)
  have e0 : Int.gcd y x = Nat.gcd x.natAbs y.natAbs := by unfold Int.gcd; exact Nat.gcd_comm _ _
  have hd : ((Nat.gcd x.natAbs y.natAbs : Nat) : Int) ∣ y.sign * x := by
    refine Int.dvd_mul_of_dvd_right ?_
    exact Int.ofNat_dvd_left.2 (Nat.gcd_dvd_left _ _)
  have h1 : (Rat.divInt x y).num * ((Nat.gcd x.natAbs y.natAbs : Nat) : Int) = y.sign * x := by
    rw [Rat.num_divInt, e0]
    exact Int.ediv_mul_cancel hd
  have h2 : (Rat.divInt x y).den = y.natAbs / Nat.gcd x.natAbs y.natAbs := by
    rw [Rat.den_divInt, if_neg hy, e0]
  generalize hG : Nat.gcd x.natAbs y.natAbs = G at *
  generalize (Rat.divInt x y).num = z at *
  have hs : (y.sign = 1 ∧ 0 < y) ∨ (y.sign = -1 ∧ y < 0) := by
    rcases Int.lt_trichotomy y 0 with h | h | h
    · exact .inr ⟨Int.sign_eq_neg_one_of_neg h, h⟩
    · exact absurd h hy
    · exact .inl ⟨Int.sign_eq_one_of_pos h, h⟩
  have hz : (z < 0 ↔ z * (G : Int) < 0) := by
    constructor
    · intro h; exact Int.mul_neg_of_neg_of_pos h (by omega)
    · intro h
      by_cases h3 : z < 0
      · exact h3
      · have := Int.mul_nonneg (show 0 ≤ z by omega) (show (0 : Int) ≤ (G : Int) by omega)
        omega
  have hn : z.natAbs * G = x.natAbs := by
    have := congrArg Int.natAbs h1
    rw [Int.natAbs_mul, Int.natAbs_mul, Int.natAbs_natCast] at this
    rcases hs with ⟨e, _⟩ | ⟨e, _⟩
    · rw [e] at this; simpa using this
    · rw [e] at this; simpa using this
  refine ⟨(Nat.div_eq_of_eq_mul_left hg hn.symm).symm, h2, ?_⟩
  rw [hz, h1]
  rcases hs with ⟨e, h⟩ | ⟨e, h⟩
  · rw [e]; omega
  · rw [e]; omega

theorem ratof_q {w : World} {Z Y : Zone} {x y : Int} {q : Rat} {s t r : Bool} {l k la ld : List Nat} {A B : Option Addr} {c d : Nat} (h1 : Nm x s l) (h2 : Nm y t k) (hy : y ≠ 0) (h3 : NmQ q r la ld) (hq : Rat.divInt x y = q) (hl : l.length ≤ 10000) (hl2 : k.length ≤ 10000) (u1 : U64s w Z A c l) (u2 : U64s w Y B d k) :
    Calls Tryz.prog 140 #[.agg #[.bool s, .slice A l.length c], .agg #[.bool t, .slice B k.length d]] w fun e w' => ∃ An cn Ad cd, e = .returned (.tuple #[.agg #[.bool r, .slice An la.length cn, .slice Ad ld.length cd], .int .i64 0]) ∧ U64s w' (new w.heap.size) An cn la ∧ U64s w' (new w.heap.size) Ad cd ld ∧ Below w.heap.size w w' := by
  obtain ⟨p1, p2, p3⟩ := divInt_parts (x := x) hy
  rw [hq] at p1 p2 p3
  have ea : ratA l k = la := by unfold ratA; rw [h1.val, h2.val, ← p1]; exact h3.2.1.symm
  have ed : ratD l k = ld := by unfold ratD; rw [h1.val, h2.val, ← p2]; exact h3.2.2.symm
  have hk : 0 < k.length := by rw [h2.2]; exact len_pos.2 (by omega)
  have hr : ((s != t) && decide (0 < (ratA l k).length)) = r := by
    rw [ea, h3.1, h3.2.1, h1.1, h2.1]
    have hg : 0 < Nat.gcd x.natAbs y.natAbs := Nat.gcd_pos_of_pos_right _ (by omega)
    have e0 : (0 < (limbs q.num.natAbs).length) ↔ x ≠ 0 := by
      rw [len_pos]
      constructor
      · intro h e
        rw [p1, e] at h
        simp at h
      · intro h e
        rw [p1, Nat.div_eq_zero_iff] at e
        have h4 := Nat.le_of_dvd (by omega) (Nat.gcd_dvd_left x.natAbs y.natAbs)
        omega
    have e0' : decide (0 < (limbs q.num.natAbs).length) = decide (x ≠ 0) := decide_eq_decide.2 e0
    have p3' : decide (q.num < 0) = decide ((x < 0 ∧ 0 < y) ∨ (0 < x ∧ y < 0)) := decide_eq_decide.2 p3
    rw [e0', p3']
    rw [Bool.eq_iff_iff]
    simp only [Bool.and_eq_true, bne_iff_ne, decide_eq_true_iff, ne_eq, decide_eq_decide]
    omega
  have := ratof_good u1 u2 h1.okI h2.okI hk hl hl2 hr
  rwa [ea, ed] at this

/-- The three cells that a fraction's parameter lies in. -/
theorem box_rat (w : World) (a b c : Value) : Below w.heap.size w (w.alloc (.cells #[a, b, c] 48)) := (Below.refl _ w).alloc (Nat.le_refl _) _

set_option maxRecDepth 100000 in
set_option maxHeartbeats 2000000 in
theorem ratcheck_any {w : World} {Z Y : Zone} {s : Bool} {l k : List Nat} {A B : Option Addr} {c d : Nat} (u1 : U64s w Z A c l) (u2 : U64s w Y B d k) (hl : l.length ≤ 10000) (hl2 : k.length ≤ 10000) :
    Calls Tryz.prog 40 #[.agg #[.bool s, .slice A l.length c, .slice B k.length d]] w fun e w' => e = .returned (.int .i64 (errF s l k)) ∧ Below w.heap.size w w' := by
  have hB := box_rat w (.bool s) (.slice A l.length c) (.slice B k.length d)
  obtain ⟨b0, b1, b2, _, _, _, _⟩ := Box3.new w (.bool s) (.slice A l.length c) (.slice B k.length d) 48
  have v1 := u1.below hB
  have v2 := u2.below hB
  have hs1 := u1.small
  have hs2 := u2.small
  have hck := fun (w1 : World) (h : Below (w.alloc (.cells #[.bool s, .slice A l.length c, .slice B k.length d] 48)).heap.size (w.alloc (.cells #[.bool s, .slice A l.length c, .slice B k.length d] 48)) w1) => wcheck_any (a := .agg #[.bool s, .slice A l.length c]) ⟨_, rfl, A, c, rfl, v1.below h⟩
  by_cases o1 : okI s l = true
  · have e1 : errC s l = 0 := by unfold errC; rw [if_pos o1]
    by_cases o2 : good k = true
    · by_cases o3 : k.length = 0
      · have eF : errF s l k = 8 := by unfold errF; rw [if_neg]; intro h; have := (okQ_iff.1 h).2.2.1; omega
        rw [e1] at hck
        have hk2 : Hid (∀ w1, U64s w1 Y B d k → Calls Tryz.prog 97 #[.slice B 0 d] w1 fun e w' => e = .returned (.int .i64 0) ∧ w1 = w') := fun w1 h => by
          have := check_goodN (IsU.num ⟨B, d, rfl, h⟩ o2)
          rwa [o3] at this
        have Hck := Lib.hid (hck _ (Below.refl _ _))
        have Hk2 := hk2
        rw [eF, o3]
        rw [o3] at b0 b1 b2 hB Hck v1 v2
        clear hck eF e1 o1 o2 hk2 u1 u2 v1 hs1 hs2
        generalize l.length = L at *
        go_enter Tryz.func40, Tryz.ntmps40
        go_wp2_with fail
        refine Hck.out.mono ?_
        rintro e w1 ⟨rfl, hb1⟩
        have hB1 := from_ hB hb1
        replace b0 := keepC hb1 b0
        replace b1 := keepC hb1 b1
        replace b2 := keepC hb1 b2
        go_wp2_with fail
        refine (Hk2.out _ (v2.below hb1)).mono ?_
        rintro e w2 ⟨rfl, rfl⟩
        go_wp2
        go_ret
        exact ⟨rfl, hB1⟩
      · have na : Hid (∀ w1, U64s w1 Z A c l → IsN w1 Z (.slice A l.length c) (val l)) := fun w1 h => IsU.num ⟨A, c, rfl, h⟩ (by unfold okI at o1; rw [Bool.and_eq_true] at o1; exact o1.1)
        have nb : Hid (∀ w1, U64s w1 Y B d k → IsN w1 Y (.slice B k.length d) (val k)) := fun w1 h => IsU.num ⟨B, d, rfl, h⟩ o2
        have hga : good l = true := by unfold okI at o1; rw [Bool.and_eq_true] at o1; exact o1.1
        have qa : (limbs (val l)).length ≤ 20000 := by rw [limbs_val l hs1 hga]; omega
        have qb : (limbs (val k)).length ≤ 20000 := by rw [limbs_val k hs2 o2]; omega
        have hGc : Hid (∀ w1, U64s w1 Z A c l → U64s w1 Y B d k → Calls Tryz.prog 98 #[.slice A l.length c, .slice B k.length d] w1 fun e w' => ∃ v, e = .returned (.tuple #[v, .int .i64 0]) ∧ IsN w' (new w1.heap.size) v (Nat.gcd (val l) (val k)) ∧ Below w1.heap.size w1 w') := fun w1 h h' => gcd_good (na.out _ h) (nb.out _ h') qa qb
        have hk2 : Hid (∀ w1, U64s w1 Y B d k → Calls Tryz.prog 97 #[.slice B k.length d] w1 fun e w' => e = .returned (.int .i64 0) ∧ w1 = w') := fun w1 h => check_goodN (nb.out _ h)
        obtain ⟨E, hE⟩ : ∃ E, E = decide (limbs (Nat.gcd (val l) (val k)) = [1]) := ⟨_, rfl⟩
        have hiff : (limbs (Nat.gcd (val l) (val k)) = [1]) ↔ Nat.gcd (val l) (val k) = 1 := by
          constructor
          · intro h
            have := congrArg val h
            rw [val_limbs] at this
            simpa [val] using this
          · intro h; rw [h]; rfl
        have eF : errF s l k = if E = true then 0 else 8 := by
          unfold errF
          by_cases h : Nat.gcd (val l) (val k) = 1
          · rw [if_pos (okQ_iff.2 ⟨o1, o2, by omega, h⟩), hE, decide_eq_true (hiff.2 h), if_pos rfl]
          · rw [if_neg (fun h2 => h (okQ_iff.1 h2).2.2.2), hE, decide_eq_false (fun h2 => h (hiff.1 h2)), if_neg (by simp)]
        have hz : ((k.length : Int) == 0) = false := beq_eq_false_iff_ne.2 (by omega)
        rw [e1] at hck
        have Hck := Lib.hid (hck _ (Below.refl _ _))
        have Hk2 := hk2
        have HE := Lib.hid hE
        rw [eF]
        clear hck eF e1 o1 o2 hk2 u1 u2 hs1 hs2 na nb qa qb hga hiff hE
        generalize Nat.gcd (val l) (val k) = G at *
        have HG := hGc
        have hone : ∀ w1 v, IsN w1 (new w.heap.size) v G → Calls Tryz.prog 96 #[v, .slice (some ⟨w1.heap.size, 0, none⟩) 1 1] (w1.alloc (.cells #[.int .u64 1] 68)) fun e w' => e = .returned (.bool E) ∧ Below (w1.alloc (.cells #[.int .u64 1] 68)).heap.size (w1.alloc (.cells #[.int .u64 1] 68)) w' := fun w1 v h => by
          have h2 : IsU (w1.alloc (.cells #[.int .u64 1] 68)) old (.slice (some ⟨w1.heap.size, 0, none⟩) 1 1) [1] := isU_one (x := 1) (by omega) (by refine cell_newest ?_ rfl; simp)
          have h3 := equal_dec (IsU.below h ((Below.refl _ w1).alloc (Nat.le_refl _) _)) h2
          rwa [← HE.out] at h3
        have Hone := Lib.hid hone
        clear hone hGc
        cases E
        all_goals
          go_enter Tryz.func40, Tryz.ntmps40
          go_wp2_with fail
          refine Hck.out.mono ?_
          rintro e w1 ⟨rfl, hb1⟩
          have hB1 := from_ hB hb1
          replace b0 := keepC hb1 b0
          replace b1 := keepC hb1 b1
          replace b2 := keepC hb1 b2
          have v11 := v1.below hb1
          have v21 := v2.below hb1
          go_wp2_with fail
          refine (Hk2.out _ v21).mono ?_
          rintro e w2 ⟨rfl, rfl⟩
          go_wp2_with fail
          refine (HG.out _ v11 v21).mono ?_
          rintro e w3 ⟨v, rfl, hg3, hb3⟩
          have hB3 := from_ hB1 hb3
          go_wp2_with fail
          refine (Hone.out _ _ (hg3.mono (new_le hB1.size))).mono ?_
          rintro e w4 ⟨rfl, hb4⟩
          have hB4 := from_ hB3 (step (by go_grown) hb4)
          go_wp2
          go_ret
          exact ⟨rfl, hB4⟩
    · have hk2 : Hid (∀ w1, U64s w1 Y B d k → Calls Tryz.prog 97 #[.slice B k.length d] w1 fun e w' => e = .returned (.int .i64 8) ∧ w1 = w') := fun w1 h => check_badU ⟨B, d, rfl, h⟩ (by simpa using o2)
      have eF : errF s l k = 8 := by unfold errF; rw [if_neg]; intro h; exact o2 (okQ_iff.1 h).2.1
      rw [e1] at hck
      have Hck := Lib.hid (hck _ (Below.refl _ _))
      have Hk2 := hk2
      rw [eF]
      clear hck eF e1 o1 o2 hk2 u1 u2 v1 hs1 hs2
      go_enter Tryz.func40, Tryz.ntmps40
      go_wp2_with fail
      refine Hck.out.mono ?_
      rintro e w1 ⟨rfl, hb1⟩
      have hB1 := from_ hB hb1
      replace b0 := keepC hb1 b0
      replace b1 := keepC hb1 b1
      replace b2 := keepC hb1 b2
      go_wp2_with fail
      refine (Hk2.out _ (v2.below hb1)).mono ?_
      rintro e w2 ⟨rfl, rfl⟩
      go_wp2
      go_ret
      exact ⟨rfl, hB1⟩
  · have e1 : errC s l = 8 := by unfold errC; rw [if_neg o1]
    have eF : errF s l k = 8 := by unfold errF; rw [if_neg]; intro h; exact o1 (okQ_iff.1 h).1
    rw [e1] at hck
    have Hck := Lib.hid (hck _ (Below.refl _ _))
    rw [eF]
    clear hck eF e1 o1 u1 u2 v1 v2 hs1 hs2
    go_enter Tryz.func40, Tryz.ntmps40
    go_wp2_with fail
    refine Hck.out.mono ?_
    rintro e w1 ⟨rfl, hb1⟩
    have hB1 := from_ hB hb1
    go_wp2
    go_ret
    exact ⟨rfl, hB1⟩

end Go.Proofs.YtceenaegchlbcaaGreatDoor

namespace Go.Proofs.YtceenaegchlbcaaGreatDoor
open Go.RowKit
set_option linter.unusedVariables false
set_option linter.unusedSimpArgs false

set_option maxRecDepth 100000 in
set_option maxHeartbeats 1000000 in
theorem rsum_n {w : World} {Z1 Z2 : Zone} {x y z : Int} {s t r : Bool} {l k m : List Nat} {A B : Option Addr} {c d : Nat} (h1 : Nm x s l) (h2 : Nm y t k) (h3 : Nm z r m) (hz : x + y = z) (hl : l.length ≤ 90000) (hl2 : k.length ≤ 90000) (u1 : U64s w Z1 A c l) (u2 : U64s w Z2 B d k) :
    Calls Tryz.prog 77 #[.agg #[.bool s, .slice A l.length c], .agg #[.bool t, .slice B k.length d]] w fun e w' => ∃ Av cv, e = .returned (.agg #[.bool r, .slice Av m.length cv]) ∧ U64s w' (new w.heap.size) Av cv m ∧ Below w.heap.size w w' := by
  obtain ⟨bA, bB, bR, hB0⟩ := boxes3 w (.bool s) (.slice A l.length c) (.bool t) (.slice B k.length d) (.bool false) (.slice none 0 0) 36
  have hop := wadd_n h1 h2 h3 hz hl hl2 (u1.below hB0) (u2.below hB0)
  have Hop := Lib.hid hop
  clear hop h1 h2 h3 hz hl hl2 u1 u2
  generalize l.length = ll at *
  generalize k.length = lk at *
  obtain ⟨a0, a1, _, _, _⟩ := bA
  obtain ⟨b0, b1, _, _, _⟩ := bB
  go_enter Tryz.func77, Tryz.ntmps77
  go_wp2_with fail
  refine Hop.out.mono ?_
  rintro e w1 ⟨Av, cv, rfl, hv, hc1⟩
  have bRw := bR.below hc1
  have hBw := from_ hB0 hc1
  have hP := bRw.put hBw (by omega) (.bool r) (.slice Av m.length cv)
  have hiv : IsU w1 _ (.slice Av m.length cv) m := ⟨Av, cv, rfl, hv⟩
  have hu2 := (hP.keep (by simp <;> omega) hiv).below ((Below.refl _ _).alloc (Nat.le_refl _) (.cells #[.bool r, .slice Av m.length cv] 36))
  have hbx := hP.box.alloc (.cells #[.bool r, .slice Av m.length cv] 36)
  have hbl := hP.bel.alloc hP.bel.size (.cells #[.bool r, .slice Av m.length cv] 36)
  have Hu := Lib.hid hu2
  have Hbx := Lib.hid hbx
  have Hbl := Lib.hid hbl
  have hz2 : w.heap.size + 2 < w1.heap.size := bRw.lt
  have hne : ¬ (w1.heap.size = w.heap.size + 1 + 1) := by omega
  have hne2 : ¬ (w.heap.size + 1 + 1 = w1.heap.size) := by omega
  obtain ⟨q0, q1, f0, f1, _⟩ := (show Box w1 (w.heap.size + 1 + 1) _ _ from bRw)
  clear hP hbx hbl hu2 hiv hv hBw bR hB0 hc1
  go_wp2
  refine bodyPost_ret (res_int rfl _ (w.heap.size + 2) rfl Hbx.out.c0 Hbx.out.c1) rfl ?_
  obtain ⟨A', c', e', h'⟩ := Hu.out
  injection e' with e1 e2 e3
  subst e1 e3
  exact ⟨_, _, rfl, h', Hbl.out⟩

set_option maxRecDepth 100000 in
set_option maxHeartbeats 1000000 in
theorem rprod_n {w : World} {Z1 Z2 : Zone} {x y z : Int} {s t r : Bool} {l k m : List Nat} {A B : Option Addr} {c d : Nat} (h1 : Nm x s l) (h2 : Nm y t k) (h3 : Nm z r m) (hz : x * y = z) (hl : l.length ≤ 90000) (hl2 : k.length ≤ 90000) (u1 : U64s w Z1 A c l) (u2 : U64s w Z2 B d k) :
    Calls Tryz.prog 78 #[.agg #[.bool s, .slice A l.length c], .agg #[.bool t, .slice B k.length d]] w fun e w' => ∃ Av cv, e = .returned (.agg #[.bool r, .slice Av m.length cv]) ∧ U64s w' (new w.heap.size) Av cv m ∧ Below w.heap.size w w' := by
  obtain ⟨bA, bB, bR, hB0⟩ := boxes3 w (.bool s) (.slice A l.length c) (.bool t) (.slice B k.length d) (.bool false) (.slice none 0 0) 36
  have hop := wmul_n h1 h2 h3 hz hl hl2 (u1.below hB0) (u2.below hB0)
  have Hop := Lib.hid hop
  clear hop h1 h2 h3 hz hl hl2 u1 u2
  generalize l.length = ll at *
  generalize k.length = lk at *
  obtain ⟨a0, a1, _, _, _⟩ := bA
  obtain ⟨b0, b1, _, _, _⟩ := bB
  go_enter Tryz.func78, Tryz.ntmps78
  go_wp2_with fail
  refine Hop.out.mono ?_
  rintro e w1 ⟨Av, cv, rfl, hv, hc1⟩
  have bRw := bR.below hc1
  have hBw := from_ hB0 hc1
  have hP := bRw.put hBw (by omega) (.bool r) (.slice Av m.length cv)
  have hiv : IsU w1 _ (.slice Av m.length cv) m := ⟨Av, cv, rfl, hv⟩
  have hu2 := (hP.keep (by simp <;> omega) hiv).below ((Below.refl _ _).alloc (Nat.le_refl _) (.cells #[.bool r, .slice Av m.length cv] 36))
  have hbx := hP.box.alloc (.cells #[.bool r, .slice Av m.length cv] 36)
  have hbl := hP.bel.alloc hP.bel.size (.cells #[.bool r, .slice Av m.length cv] 36)
  have Hu := Lib.hid hu2
  have Hbx := Lib.hid hbx
  have Hbl := Lib.hid hbl
  have hz2 : w.heap.size + 2 < w1.heap.size := bRw.lt
  have hne : ¬ (w1.heap.size = w.heap.size + 1 + 1) := by omega
  have hne2 : ¬ (w.heap.size + 1 + 1 = w1.heap.size) := by omega
  obtain ⟨q0, q1, f0, f1, _⟩ := (show Box w1 (w.heap.size + 1 + 1) _ _ from bRw)
  clear hP hbx hbl hu2 hiv hv hBw bR hB0 hc1
  go_wp2
  refine bodyPost_ret (res_int rfl _ (w.heap.size + 2) rfl Hbx.out.c0 Hbx.out.c1) rfl ?_
  obtain ⟨A', c', e', h'⟩ := Hu.out
  injection e' with e1 e2 e3
  subst e1 e3
  exact ⟨_, _, rfl, h', Hbl.out⟩

theorem rden_n {w : World} {s : Bool} {l k : List Nat} {A B : Option Addr} {c d : Nat} :
    Calls Tryz.prog 79 #[.agg #[.bool s, .slice A l.length c, .slice B k.length d]] w fun e w' => e = .returned (.agg #[.bool false, .slice B k.length d]) ∧ Below w.heap.size w w' := by
  have hB := box_rat w (.bool s) (.slice A l.length c) (.slice B k.length d)
  obtain ⟨b0, b1, b2, _, _, _, _⟩ := (Box3.new w (.bool s) (.slice A l.length c) (.slice B k.length d) 48).alloc (.cells #[.bool false, .slice none 0 0] 36)
  have hB2 := hB.alloc hB.size (.cells #[.bool false, .slice B k.length d] 36)
  go_enter Tryz.func79, Tryz.ntmps79
  go_wp2
  refine bodyPost_ret (res_int rfl _ (w.heap.size + 1) rfl (cell_newest (by simp) rfl) (cell_newest (by simp) rfl)) rfl ?_
  exact ⟨rfl, hB2⟩

theorem rneg_n {w : World} {s r : Bool} {l k : List Nat} {A B : Option Addr} {c d : Nat} (hr : (!s && decide (0 < l.length)) = r) :
    Calls Tryz.prog 84 #[.agg #[.bool s, .slice A l.length c, .slice B k.length d]] w fun e w' => e = .returned (.agg #[.bool r, .slice A l.length c, .slice B k.length d]) ∧ Below w.heap.size w w' := by
  have hB := box_rat w (.bool r) (.slice A l.length c) (.slice B k.length d)
  have hB2 := hB.alloc hB.size (.cells #[.bool r, .slice A l.length c, .slice B k.length d] 48)
  have hcase : (s = true ∧ r = false) ∨ (s = false ∧ r = false ∧ decide ((0 : Int) < (l.length : Int)) = false ∧ l.length = 0) ∨ (s = false ∧ r = true ∧ decide ((0 : Int) < (l.length : Int)) = true ∧ 0 < l.length) := by
    cases s
    · rw [Bool.not_false, Bool.true_and] at hr
      by_cases h : 0 < l.length
      · exact .inr (.inr ⟨rfl, by rw [← hr]; exact decide_eq_true h, decide_eq_true (by omega), h⟩)
      · exact .inr (.inl ⟨rfl, by rw [← hr]; exact decide_eq_false h, decide_eq_false (by omega), by omega⟩)
    · exact .inl ⟨rfl, hr.symm⟩
  clear hr
  generalize l.length = L at *
  generalize k.length = K at *
  rcases hcase with ⟨rfl, rfl⟩ | ⟨rfl, rfl, hd, h0⟩ | ⟨rfl, rfl, hd, h0⟩
  all_goals
    go_enter Tryz.func84, Tryz.ntmps84
    go_wp2
    refine bodyPost_ret (res_rat rfl _ (w.heap.size + 1) rfl (cell_newest (by simp) rfl) (cell_newest (by simp) rfl) (cell_newest (by simp) rfl)) rfl ?_
    first | exact ⟨rfl, hB2⟩ | exact ⟨by simp [h0], by simpa [h0] using hB2⟩

/-- A sign and two rows of words. -/
structure Fr where
  s : Bool
  l : List Nat
  k : List Nat
def Fr.ok (p : Fr) : Bool := okQ p.s p.l p.k
/-- Fractions in a row of memory. -/
def GivenQ (w : World) (g : Nat) (ps : List Fr) : Prop :=
  ∀ j (h : j < ps.length), ∃ A c B d, w.cell? ⟨g, j * 3, none⟩ = some (.bool ps[j].s) ∧ w.cell? ⟨g, j * 3 + 1, none⟩ = some (.slice A ps[j].l.length c) ∧ w.cell? ⟨g, j * 3 + 2, none⟩ = some (.slice B ps[j].k.length d) ∧ U64s w old A c ps[j].l ∧ U64s w old B d ps[j].k ∧ ps[j].l.length ≤ 10000 ∧ ps[j].k.length ≤ 10000
theorem GivenQ.below {w w' : World} {g : Nat} {ps : List Fr} (h : GivenQ w g ps) (hb : Below w.heap.size w w') : GivenQ w' g ps := fun j hj => by
  obtain ⟨A, c, B, d, h0, h1, h2, h3, h4, h5⟩ := h j hj
  exact ⟨A, c, B, d, keepC hb h0, keepC hb h1, keepC hb h2, h3.below hb, h4.below hb, h5⟩
theorem given_twoQ {w : World} {Z1 Z2 Z3 Z4 : Zone} {s t : Bool} {l k l' k' : List Nat} {A B C D : Option Addr} {a b c d : Nat} {ty : TypeId} (u1 : U64s w Z1 A a l) (u2 : U64s w Z2 B b k) (u3 : U64s w Z3 C c l') (u4 : U64s w Z4 D d k') (q1 : l.length ≤ 10000) (q2 : k.length ≤ 10000) (q3 : l'.length ≤ 10000) (q4 : k'.length ≤ 10000) :
    GivenQ (w.alloc (.cells #[.bool s, .slice A l.length a, .slice B k.length b, .bool t, .slice C l'.length c, .slice D k'.length d] ty)) w.heap.size [⟨s, l, k⟩, ⟨t, l', k'⟩] := fun j hj => by
  have hb := (Below.refl _ w).alloc (Nat.le_refl _) (.cells #[.bool s, .slice A l.length a, .slice B k.length b, .bool t, .slice C l'.length c, .slice D k'.length d] ty)
  match j, hj with
  | 0, _ => exact ⟨A, a, B, b, cell_newest rfl rfl, cell_newest rfl rfl, cell_newest rfl rfl, (u1.below hb).mono (le_old _), (u2.below hb).mono (le_old _), q1, q2⟩
  | 1, _ => exact ⟨C, c, D, d, cell_newest rfl rfl, cell_newest rfl rfl, cell_newest rfl rfl, (u3.below hb).mono (le_old _), (u4.below hb).mono (le_old _), q3, q4⟩
def errFs (ps : List Fr) : Int := if ps.all Fr.ok = true then 0 else 8

set_option maxRecDepth 100000 in
set_option maxHeartbeats 2000000 in
theorem ratcheckedQ_any {w : World} {g n c : Nat} {ps : List Fr} (h : GivenQ w g ps) (hn : n = ps.length) (hl : ps.length ≤ 1000) :
    Calls Tryz.prog 83 #[.func (.func 40) #[] #[], .slice (some ⟨g, 0, none⟩) n c] w fun e w' => e = .returned (.int .i64 (errFs ps)) ∧ Below w.heap.size w w' := by
  subst hn
  go_enter Tryz.func83, Tryz.ntmps83
  go_wp2
  go_loopw [10] (fun i wr => ∃ k : Nat, k ≤ ps.length ∧ i = .int .i64 k ∧ Below w.heap.size w wr ∧ Hid (∀ j (hj : j < ps.length), j < k → ps[j].ok = true)) (fun i _ => ps.length - (intOf i).toNat)
  case atStart => exact ⟨0, Nat.zero_le _, rfl, Below.refl _ _, fun j hj h => absurd h (by omega)⟩
  case round =>
    obtain ⟨k, hk, rfl, hbel, hz⟩ := hrel
    by_cases hlt : k < ps.length
    · obtain ⟨A, a, B, b, h0, h1, h2, u1, u2, q1, q2⟩ := (h.below hbel) k hlt
      have hal := box_rat wr (.bool ps[k].s) (.slice A ps[k].l.length a) (.slice B ps[k].k.length b)
      have hck := ratcheck_any (s := ps[k].s) (u1.below hal) (u2.below hal) q1 q2
      have hb1 := hbel.alloc hbel.size (.cells #[.bool ps[k].s, .slice A ps[k].l.length a, .slice B ps[k].k.length b] 48)
      have hok : ps[k].ok = true ∨ ps[k].ok = false := by cases ps[k].ok <;> simp
      have Hall : Hid (ps[k].ok = true → ∀ j (hj : j < ps.length), j < k + 1 → ps[j].ok = true) := fun hx j hj hjk => by
        rcases Nat.lt_or_ge j k with h1 | h1
        · exact hz.out j hj h1
        · obtain rfl : j = k := by omega
          exact hx
      have Hnone : Hid (ps[k].ok = false → errFs ps = 8) := fun hx => by
        unfold errFs
        rw [if_neg]
        intro hall
        have := List.all_eq_true.1 hall ps[k] (List.getElem_mem hlt)
        rw [this] at hx
        cases hx
      have heq : errF ps[k].s ps[k].l ps[k].k = if ps[k].ok = true then 0 else 8 := rfl
      rw [heq] at hck
      clear u1 u2 hz hal heq
      obtain ⟨O, hO⟩ : ∃ O, O = ps[k].ok := ⟨_, rfl⟩
      rw [← hO] at hck hok Hall Hnone
      clear hO
      generalize ps[k].s = s at *
      generalize ps[k].l.length = L at *
      generalize ps[k].k.length = K at *
      rcases hok with hok | hok
      · rw [if_pos hok] at hck
        have Hck := Lib.hid hck
        have Hok := Lib.hid hok
        clear hck hok
        go_wp2_with fail
        refine Hck.out.mono ?_
        rintro e w1 ⟨rfl, hb2⟩
        have hb3 := from_ hb1 hb2
        go_wp2
        go_roundw
        case rel => exact ⟨k + 1, by omega, by go_num, hb3, Lib.hid (Hall.out Hok.out)⟩
        case measure => simp [intOf]; omega
      · rw [if_neg (by rw [hok]; simp)] at hck
        have Hck := Lib.hid hck
        have Hok := Lib.hid hok
        clear hck hok
        go_wp2_with fail
        refine Hck.out.mono ?_
        rintro e w1 ⟨rfl, hb2⟩
        have hb3 := from_ hb1 hb2
        go_wp2
        go_ret
        rw [Hnone.out Hok.out]
        exact ⟨rfl, hb3⟩
    · obtain rfl : k = ps.length := by omega
      have he : errFs ps = 0 := by
        unfold errFs
        rw [if_pos]
        rw [List.all_eq_true]
        intro p hp
        obtain ⟨j, hj, rfl⟩ := List.getElem_of_mem hp
        exact hz.out j hj hj
      have He := Lib.hid he
      clear he
      go_wp2
      go_ret
      rw [He.out]
      exact ⟨rfl, hbel⟩

end Go.Proofs.YtceenaegchlbcaaGreatDoor
