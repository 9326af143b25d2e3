/- Quotients rounded: plain facts, and contracts by name. No conditions. -/
import Derived.Test.YthpngihjcphigaaGreatRWhM
import Derived.Test.YthpngihjcphigaaGreatRVecC
import Derived.Test.YthpngihjcphigaaGreatRWhJ
set_option linter.unusedVariables false
set_option linter.unusedSimpArgs false
set_option maxRecDepth 100000
set_option maxHeartbeats 40000000
namespace Go.Proofs.YthpngihjcphigaaGreat
open Go.RowKit
variable {A B : Option Addr} {Z Z1 Z2 : Zone} {c d : Nat} {g x y z : Int} {l m : List Nat} {r s t : Bool} {w : World}
def Nm (x : Int) (s : Bool) (l : List Nat) : Prop := s = decide (x < 0) ∧ l = limbs x.natAbs
theorem Nm.mk' (x : Int) : Nm x (decide (x < 0)) (limbs x.natAbs) := ⟨rfl, rfl⟩
theorem Nm.isZ (h : Nm x s l) (hu : U64s w Z A c l) : IsZ w Z (.agg #[.bool s, .slice A l.length c]) x := by
 obtain ⟨rfl, rfl⟩ := h
 exact ⟨_, rfl, A, c, rfl, hu⟩
theorem Nm.of (h : Nm x s l) {v : Value} (hv : IsZ w Z v x) : ∃ A c, v = .agg #[.bool s, .slice A l.length c] ∧ U64s w Z A c l := by
 obtain ⟨rfl, rfl⟩ := h
 obtain ⟨_, rfl, A, c, rfl, hu⟩ := hv
 exact ⟨A, c, rfl, hu⟩
theorem Nm.len (h : Nm x s l) : l.length = (limbs x.natAbs).length := by rw [h.2]
theorem Nm.ok (h : okI s l = true) (hs : Small l) : Nm (zof s l) s l := ⟨(zof_enc h hs).1.symm, (zof_enc h hs).2.symm⟩
theorem wadd_n {k : List Nat} (h1 : Nm x s l) (h2 : Nm y t k) (h3 : Nm z r m) (hz : x + y = z) (hl : l.length ≤ 90000000000) (hl2 : k.length ≤ 90000000000) (u1 : U64s w Z1 A c l) (u2 : U64s w Z2 B d k) :
  Calls Tryz.prog 68 #[.agg #[.bool s, .slice A l.length c], .agg #[.bool t, .slice B k.length d]] w fun e w' => ∃ Av cv, e = .returned (.tuple #[.agg #[.bool r, .slice Av m.length cv], .int .i64 0]) ∧ U64s w' (new w.heap.size) Av cv m ∧ Below w.heap.size w w' := by
 refine (wadd_z (h1.isZ u1) (h2.isZ u2) (by rw [← h1.len]; exact hl) (by rw [← h2.len]; exact hl2)).mono ?_
 rintro e w' ⟨v, rfl, hv, hb⟩
 rw [hz] at hv
 obtain ⟨Av, cv, rfl, hu⟩ := h3.of hv
 exact ⟨Av, cv, rfl, hu, hb⟩
theorem wmul_n {k : List Nat} (h1 : Nm x s l) (h2 : Nm y t k) (h3 : Nm z r m) (hz : x * y = z) (hl : l.length ≤ 90000000000) (hl2 : k.length ≤ 90000000000) (u1 : U64s w Z1 A c l) (u2 : U64s w Z2 B d k) :
  Calls Tryz.prog 72 #[.agg #[.bool s, .slice A l.length c], .agg #[.bool t, .slice B k.length d]] w fun e w' => ∃ Av cv, e = .returned (.tuple #[.agg #[.bool r, .slice Av m.length cv], .int .i64 0]) ∧ U64s w' (new w.heap.size) Av cv m ∧ Below w.heap.size w w' := by
 refine (wmul_z (h1.isZ u1) (h2.isZ u2) (by rw [← h1.len]; exact hl) (by rw [← h2.len]; exact hl2)).mono ?_
 rintro e w' ⟨v, rfl, hv, hb⟩
 rw [hz] at hv
 obtain ⟨Av, cv, rfl, hu⟩ := h3.of hv
 exact ⟨Av, cv, rfl, hu, hb⟩
theorem wneg_n (h1 : Nm x s l) (h3 : Nm z r m) (hz : -x = z) (hl : l.length ≤ 90000000000) (u1 : U64s w Z1 A c l) :
  Calls Tryz.prog 78 #[.agg #[.bool s, .slice A l.length c]] w fun e w' => ∃ Av cv, e = .returned (.tuple #[.agg #[.bool r, .slice Av m.length cv], .int .i64 0]) ∧ U64s w' (new w.heap.size) Av cv m ∧ Below w.heap.size w w' := by
 refine (wneg_z (h1.isZ u1) (by rw [← h1.len]; exact hl)).mono ?_
 rintro e w' ⟨v, rfl, hv, hb⟩
 rw [hz] at hv
 obtain ⟨Av, cv, rfl, hu⟩ := h3.of hv
 exact ⟨Av, cv, rfl, hu, hb⟩
theorem cmp_n {k : List Nat} (h1 : Nm x s l) (h2 : Nm y t k) (hg : sgn (x - y) = g) (hl : l.length ≤ 90000000000) (hl2 : k.length ≤ 90000000000) (u1 : U64s w Z1 A c l) (u2 : U64s w Z2 B d k) :
  Calls Tryz.prog 108 #[.agg #[.bool s, .slice A l.length c], .agg #[.bool t, .slice B k.length d]] w fun e w' => e = .returned (.tuple #[.int .i64 g, .int .i64 0]) ∧ Below w.heap.size w w' := by
 subst hg
 exact wcmp_z (h1.isZ u1) (h2.isZ u2) (by rw [← h1.len]; exact hl) (by rw [← h2.len]; exact hl2)
theorem sign_n (h1 : Nm x s l) (hg : sgn x = g) (u1 : U64s w Z1 A c l) :
  Calls Tryz.prog 87 #[.agg #[.bool s, .slice A l.length c]] w fun e w' => e = .returned (.tuple #[.int .i64 g, .int .i64 0]) ∧ Below w.heap.size w w' := by
 subst hg
 exact wSign_z (h1.isZ u1)
theorem rq_val {d : Bool} (hr : x.natAbs % y.natAbs ≠ 0) : rq x y d = if (x < 0 ↔ y < 0) then ((x.natAbs / y.natAbs : Nat) : Int) + (if d = true then 0 else 1) else -((x.natAbs / y.natAbs : Nat) : Int) - (if d = true then 1 else 0) := by
 have hz : decide (0 < (limbs (x.natAbs % y.natAbs)).length) = true := decide_eq_true (by rw [len_pos]; omega)
 unfold rq tq
 rw [hz]
 generalize ((x.natAbs / y.natAbs : Nat) : Int) = q
 by_cases hx : x < 0 <;> by_cases hy : y < 0 <;> cases d <;> simp [hx, hy] <;> omega
theorem rounds_plain (hy : y ≠ 0) :
  (x.natAbs % y.natAbs = 0 ∧ x - rq x y true * y = 0 ∧ rq x y false = rq x y true ∧ -(rq (-x) y true) = rq x y true ∧ tq x y = rq x y true) ∨
  (x.natAbs % y.natAbs ≠ 0 ∧ sgn (x - rq x y true * y) = sgn y ∧ rq x y false = rq x y true + 1 ∧ -(rq (-x) y true) = rq x y true + 1 ∧ (x - rq x y true * y).natAbs < y.natAbs) := by
 have hn : 0 < y.natAbs := by omega
 have h1 := Nat.div_add_mod x.natAbs y.natAbs
 have h2 := Nat.mod_lt x.natAbs hn
 have h3 : (-x).natAbs = x.natAbs := Int.natAbs_neg x
 by_cases hr : x.natAbs % y.natAbs = 0
 · left
   unfold rq tq
   rw [h3]
   rw [hr] at h1 ⊢
   have hz : decide (0 < (limbs 0).length) = false := decide_eq_false (by rw [len_pos]; omega)
   rw [hz]
   simp only [Bool.false_and, Bool.false_eq_true, if_false]
   generalize x.natAbs / y.natAbs = q at *
   have h4 : ((y.natAbs * q + 0 : Nat) : Int) = (x.natAbs : Int) := by rw [h1]
   rw [Int.natCast_add, Int.natCast_mul] at h4
   by_cases hx : x < 0
   · have e1 : (x.natAbs : Int) = -x := by omega
     have hx2 : ¬ (-x < 0) := by omega
     by_cases hy2 : y < 0
     · have e2 : (y.natAbs : Int) = -y := by omega
       rw [e1, e2] at h4
       simp only [hx, hx2, hy2, decide_true, decide_false, if_true, if_false]
       refine ⟨by trivial, ?_, by trivial, ?_, by trivial⟩
       · rw [Int.neg_mul] at h4; rw [Int.mul_comm]; omega
       · rw [if_neg (by decide)]; omega
     · have e2 : (y.natAbs : Int) = y := by omega
       rw [e1, e2] at h4
       simp only [hx, hx2, hy2, decide_true, decide_false, if_true, if_false]
       refine ⟨by trivial, ?_, by trivial, ?_, by trivial⟩
       · rw [if_neg (by decide), Int.neg_mul, Int.mul_comm]; omega
       · rw [if_neg (by decide)]
   · by_cases hx0 : x = 0
     · subst hx0
       have hq : q = 0 := by
        rcases Nat.mul_eq_zero.1 (show y.natAbs * q = 0 by simpa using h1) with h | h
        · omega
        · exact h
       subst hq
       simp
     · have e1 : (x.natAbs : Int) = x := by omega
       have hx2 : -x < 0 := by omega
       by_cases hy2 : y < 0
       · have e2 : (y.natAbs : Int) = -y := by omega
         rw [e1, e2] at h4
         simp only [hx, hx2, hy2, decide_true, decide_false, if_true, if_false]
         refine ⟨by trivial, ?_, by trivial, ?_, by trivial⟩
         · rw [if_neg (by decide), Int.neg_mul, Int.mul_comm]; rw [Int.neg_mul] at h4; omega
         · rw [if_neg (by decide)]
       · have e2 : (y.natAbs : Int) = y := by omega
         rw [e1, e2] at h4
         simp only [hx, hx2, hy2, decide_true, decide_false, if_true, if_false]
         refine ⟨by trivial, ?_, by trivial, ?_, by trivial⟩
         · rw [Int.mul_comm]; omega
         · rw [if_neg (by decide)]; omega
 · right
   have hx0 : x ≠ 0 := by
    intro h
    subst h
    exact hr (by simp)
   have hr3 : (-x).natAbs % y.natAbs ≠ 0 := by rw [h3]; exact hr
   rw [rq_val hr, rq_val hr, rq_val hr3, h3]
   refine ⟨hr, ?_⟩
   generalize x.natAbs / y.natAbs = q at *
   generalize x.natAbs % y.natAbs = r at *
   have h4 : ((y.natAbs * q + r : Nat) : Int) = (x.natAbs : Int) := by rw [h1]
   rw [Int.natCast_add, Int.natCast_mul] at h4
   have sp : ∀ z : Int, 0 < z → sgn z = 1 := fun z hz => by unfold sgn; rw [if_neg (by omega), if_neg (by omega)]
   have sn : ∀ z : Int, z < 0 → sgn z = -1 := fun z hz => by unfold sgn; rw [if_neg (by omega), if_pos hz]
   simp only [if_true, Bool.false_eq_true, if_false]
   have k2 : (q : Int) * y = y * q := Int.mul_comm _ _
   have k4 : ((q : Int) + 0) * y = y * q := by rw [Int.add_zero]; exact k2
   have k3 : (-(q : Int) - 1) * y = -(y * q) - y := by rw [Int.sub_mul, Int.neg_mul, k2]; omega
   by_cases hx : x < 0
   · have e1 : (x.natAbs : Int) = -x := by omega
     by_cases hy2 : y < 0
     · have e2 : (y.natAbs : Int) = -y := by omega
       rw [e1, e2, Int.neg_mul] at h4
       rw [if_pos (show (x < 0 ↔ y < 0) by omega), if_pos (show (x < 0 ↔ y < 0) by omega), if_neg (show ¬ (-x < 0 ↔ y < 0) by omega), k4]
       refine ⟨?_, by omega, by omega, by omega⟩
       rw [sn y hy2, sn _ (by omega)]
     · have e2 : (y.natAbs : Int) = y := by omega
       rw [e1, e2] at h4
       rw [if_neg (show ¬ (x < 0 ↔ y < 0) by omega), if_neg (show ¬ (x < 0 ↔ y < 0) by omega), if_pos (show (-x < 0 ↔ y < 0) by omega), k3]
       refine ⟨?_, by omega, by omega, by omega⟩
       rw [sp y (by omega), sp _ (by omega)]
   · have e1 : (x.natAbs : Int) = x := by omega
     by_cases hy2 : y < 0
     · have e2 : (y.natAbs : Int) = -y := by omega
       rw [e1, e2, Int.neg_mul] at h4
       rw [if_neg (show ¬ (x < 0 ↔ y < 0) by omega), if_neg (show ¬ (x < 0 ↔ y < 0) by omega), if_pos (show (-x < 0 ↔ y < 0) by omega), k3]
       refine ⟨?_, by omega, by omega, by omega⟩
       rw [sn y hy2, sn _ (by omega)]
     · have e2 : (y.natAbs : Int) = y := by omega
       rw [e1, e2] at h4
       rw [if_pos (show (x < 0 ↔ y < 0) by omega), if_pos (show (x < 0 ↔ y < 0) by omega), if_neg (show ¬ (-x < 0 ↔ y < 0) by omega), k4]
       refine ⟨?_, by omega, by omega, by omega⟩
       rw [sp y (by omega), sp _ (by omega)]
end Go.Proofs.YthpngihjcphigaaGreat
