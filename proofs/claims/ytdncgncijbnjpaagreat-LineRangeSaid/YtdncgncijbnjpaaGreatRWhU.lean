/- Quotients rounded: plain facts, and contracts by name. No conditions. -/
import Derived.Test.YtdncgncijbnjpaaGreatRWhM
import Derived.Test.YtdncgncijbnjpaaGreatRVecC
import Derived.Test.YtdncgncijbnjpaaGreatRWhJ
set_option linter.unusedVariables false
set_option linter.unusedSimpArgs false
set_option maxRecDepth 100000
set_option maxHeartbeats 40000000
namespace Go.Proofs.YtdncgncijbnjpaaGreat
open Go.RowKit
variable {A B : Option Addr} {Z Z1 Z2 : Zone} {c d : Nat} {g x y z : Int} {m : List Nat} {r s t : Bool}
def Nm (x : Int) (s : Bool) (l : List Nat) : Prop := s = decide (x < 0) ∧ l = limbs x.natAbs
theorem Nm.isZ {l : List Nat} (h : Nm x s l) {w : World} (hu : U64s w Z A c l) : IsZ w Z (.agg #[.bool s, .slice A l.length c]) x := by
 obtain ⟨rfl, rfl⟩ := h
 exact ⟨_, rfl, A, c, rfl, hu⟩
theorem Nm.of {l : List Nat} (h : Nm x s l) {w : World} {v : Value} (hv : IsZ w Z v x) : ∃ A c, v = .agg #[.bool s, .slice A l.length c] ∧ U64s w Z A c l := by
 obtain ⟨rfl, rfl⟩ := h
 obtain ⟨_, rfl, A, c, rfl, B⟩ := hv
 exact ⟨A, c, rfl, B⟩
theorem Nm.len {l : List Nat} (h : Nm x s l) : l.length = (limbs x.natAbs).length := by rw [h.2]
theorem Nm.ok {l : List Nat} (h : okI s l = true) (hs : Small l) : Nm (zof s l) s l := ⟨(zof_enc h hs).1.symm, (zof_enc h hs).2.symm⟩
theorem wadd_n {w : World} {l k : List Nat} (h1 : Nm x s l) (h2 : Nm y t k) (h3 : Nm z r m) (hz : x + y = z) (hl : l.length ≤ 90000000000) (hl2 : k.length ≤ 90000000000) (u1 : U64s w Z1 A c l) (u2 : U64s w Z2 B d k) :
  Calls Tryz.prog 196 #[.agg #[.bool s, .slice A l.length c], .agg #[.bool t, .slice B k.length d]] w fun e w' => ∃ Av cv, e = .returned (.tuple #[.agg #[.bool r, .slice Av m.length cv], .int .i64 0]) ∧ U64s w' (new w.heap.size) Av cv m ∧ Below w.heap.size w w' := by
 refine (wadd_z (h1.isZ u1) (h2.isZ u2) (by rw [← h1.len]; exact hl) (by rw [← h2.len]; exact hl2)).mono ?_
 rintro e w' ⟨v, rfl, C, D⟩
 rw [hz] at C
 obtain ⟨Av, cv, rfl, E⟩ := h3.of C
 exact ⟨Av, cv, rfl, E, D⟩
theorem wmul_n {w : World} {l k : List Nat} (h1 : Nm x s l) (h2 : Nm y t k) (h3 : Nm z r m) (hz : x * y = z) (hl : l.length ≤ 90000000000) (hl2 : k.length ≤ 90000000000) (u1 : U64s w Z1 A c l) (u2 : U64s w Z2 B d k) :
  Calls Tryz.prog 195 #[.agg #[.bool s, .slice A l.length c], .agg #[.bool t, .slice B k.length d]] w fun e w' => ∃ Av cv, e = .returned (.tuple #[.agg #[.bool r, .slice Av m.length cv], .int .i64 0]) ∧ U64s w' (new w.heap.size) Av cv m ∧ Below w.heap.size w w' := by
 refine (wmul_z (h1.isZ u1) (h2.isZ u2) (by rw [← h1.len]; exact hl) (by rw [← h2.len]; exact hl2)).mono ?_
 rintro e w' ⟨v, rfl, C, D⟩
 rw [hz] at C
 obtain ⟨Av, cv, rfl, E⟩ := h3.of C
 exact ⟨Av, cv, rfl, E, D⟩
theorem wneg_n {w : World} {l : List Nat} (h1 : Nm x s l) (h3 : Nm z r m) (hz : -x = z) (hl : l.length ≤ 90000000000) (u1 : U64s w Z1 A c l) :
  Calls Tryz.prog 216 #[.agg #[.bool s, .slice A l.length c]] w fun e w' => ∃ Av cv, e = .returned (.tuple #[.agg #[.bool r, .slice Av m.length cv], .int .i64 0]) ∧ U64s w' (new w.heap.size) Av cv m ∧ Below w.heap.size w w' := by
 refine (wneg_z (h1.isZ u1) (by rw [← h1.len]; exact hl)).mono ?_
 rintro e w' ⟨v, rfl, B, C⟩
 rw [hz] at B
 obtain ⟨Av, cv, rfl, D⟩ := h3.of B
 exact ⟨Av, cv, rfl, D, C⟩
theorem cmp_n {w : World} {l k : List Nat} (h1 : Nm x s l) (h2 : Nm y t k) (hg : sgn (x - y) = g) (hl : l.length ≤ 90000000000) (hl2 : k.length ≤ 90000000000) (u1 : U64s w Z1 A c l) (u2 : U64s w Z2 B d k) :
  Calls Tryz.prog 85 #[.agg #[.bool s, .slice A l.length c], .agg #[.bool t, .slice B k.length d]] w fun e w' => e = .returned (.tuple #[.int .i64 g, .int .i64 0]) ∧ Below w.heap.size w w' := by
 subst hg
 exact wcmp_z (h1.isZ u1) (h2.isZ u2) (by rw [← h1.len]; exact hl) (by rw [← h2.len]; exact hl2)
theorem sign_n {w : World} {l : List Nat} (h1 : Nm x s l) (hg : sgn x = g) (u1 : U64s w Z1 A c l) :
  Calls Tryz.prog 219 #[.agg #[.bool s, .slice A l.length c]] w fun e w' => e = .returned (.tuple #[.int .i64 g, .int .i64 0]) ∧ Below w.heap.size w w' := by
 subst hg
 exact wSign_z (h1.isZ u1)
theorem rq_val {d : Bool} (hr : x.natAbs % y.natAbs ≠ 0) : rq x y d = if (x < 0 ↔ y < 0) then ((x.natAbs / y.natAbs : Nat) : Int) + (if d = true then 0 else 1) else -((x.natAbs / y.natAbs : Nat) : Int) - (if d = true then 1 else 0) := by
 have A : decide (0 < (limbs (x.natAbs % y.natAbs)).length) = true := decide_eq_true (by rw [len_pos]; omega)
 unfold rq tq
 rw [A]
 generalize ((x.natAbs / y.natAbs : Nat) : Int) = q
 by_cases hx : x < 0 <;> by_cases hy : y < 0 <;> cases d <;> simp [hx, hy] <;> omega
theorem rounds_plain (hy : y ≠ 0) :
  (x.natAbs % y.natAbs = 0 ∧ x - rq x y true * y = 0 ∧ rq x y false = rq x y true ∧ -(rq (-x) y true) = rq x y true ∧ tq x y = rq x y true) ∨
  (x.natAbs % y.natAbs ≠ 0 ∧ sgn (x - rq x y true * y) = sgn y ∧ rq x y false = rq x y true + 1 ∧ -(rq (-x) y true) = rq x y true + 1 ∧ (x - rq x y true * y).natAbs < y.natAbs) := by
 have N : 0 < y.natAbs := by omega
 have E := Nat.div_add_mod x.natAbs y.natAbs
 have Q := Nat.mod_lt x.natAbs N
 have I : (-x).natAbs = x.natAbs := Int.natAbs_neg x
 by_cases hr : x.natAbs % y.natAbs = 0
 · left
   unfold rq tq
   rw [I]
   rw [hr] at E ⊢
   have F : decide (0 < (limbs 0).length) = false := decide_eq_false (by rw [len_pos]; omega)
   rw [F]
   simp only [Bool.false_and, Bool.false_eq_true, if_false]
   generalize x.natAbs / y.natAbs = q at *
   have B : ((y.natAbs * q + 0 : Nat) : Int) = (x.natAbs : Int) := by rw [E]
   rw [Int.natCast_add, Int.natCast_mul] at B
   by_cases hx : x < 0
   · have C : (x.natAbs : Int) = -x := by omega
     have D : ¬ (-x < 0) := by omega
     by_cases hy2 : y < 0
     · have A : (y.natAbs : Int) = -y := by omega
       rw [C, A] at B
       simp only [hx, D, hy2, decide_true, decide_false, if_true, if_false]
       refine ⟨by trivial, ?_, by trivial, ?_, by trivial⟩
       · rw [Int.neg_mul] at B; rw [Int.mul_comm]; omega
       · rw [if_neg (by decide)]; omega
     · have A : (y.natAbs : Int) = y := by omega
       rw [C, A] at B
       simp only [hx, D, hy2, decide_true, decide_false, if_true, if_false]
       refine ⟨by trivial, ?_, by trivial, ?_, by trivial⟩
       · rw [if_neg (by decide), Int.neg_mul, Int.mul_comm]; omega
       · rw [if_neg (by decide)]
   · by_cases J : x = 0
     · subst J
       have O : q = 0 := by
        rcases Nat.mul_eq_zero.1 (show y.natAbs * q = 0 by simpa using E) with h | h
        · omega
        · exact h
       subst O
       simp
     · have C : (x.natAbs : Int) = x := by omega
       have D : -x < 0 := by omega
       by_cases hy2 : y < 0
       · have A : (y.natAbs : Int) = -y := by omega
         rw [C, A] at B
         simp only [hx, D, hy2, decide_true, decide_false, if_true, if_false]
         refine ⟨by trivial, ?_, by trivial, ?_, by trivial⟩
         · rw [if_neg (by decide), Int.neg_mul, Int.mul_comm]; rw [Int.neg_mul] at B; omega
         · rw [if_neg (by decide)]
       · have A : (y.natAbs : Int) = y := by omega
         rw [C, A] at B
         simp only [hx, D, hy2, decide_true, decide_false, if_true, if_false]
         refine ⟨by trivial, ?_, by trivial, ?_, by trivial⟩
         · rw [Int.mul_comm]; omega
         · rw [if_neg (by decide)]; omega
 · right
   have J : x ≠ 0 := by
    intro h
    subst h
    exact hr (by simp)
   have P : (-x).natAbs % y.natAbs ≠ 0 := by rw [I]; exact hr
   rw [rq_val hr, rq_val hr, rq_val P, I]
   refine ⟨hr, ?_⟩
   generalize x.natAbs / y.natAbs = q at *
   generalize x.natAbs % y.natAbs = r at *
   have B : ((y.natAbs * q + r : Nat) : Int) = (x.natAbs : Int) := by rw [E]
   rw [Int.natCast_add, Int.natCast_mul] at B
   have G : ∀ z : Int, 0 < z → sgn z = 1 := fun z F => by unfold sgn; rw [if_neg (by omega), if_neg (by omega)]
   have H : ∀ z : Int, z < 0 → sgn z = -1 := fun z F => by unfold sgn; rw [if_neg (by omega), if_pos F]
   simp only [if_true, Bool.false_eq_true, if_false]
   have K : (q : Int) * y = y * q := Int.mul_comm _ _
   have L : ((q : Int) + 0) * y = y * q := by rw [Int.add_zero]; exact K
   have M : (-(q : Int) - 1) * y = -(y * q) - y := by rw [Int.sub_mul, Int.neg_mul, K]; omega
   by_cases hx : x < 0
   · have C : (x.natAbs : Int) = -x := by omega
     by_cases hy2 : y < 0
     · have A : (y.natAbs : Int) = -y := by omega
       rw [C, A, Int.neg_mul] at B
       rw [if_pos (show (x < 0 ↔ y < 0) by omega), if_pos (show (x < 0 ↔ y < 0) by omega), if_neg (show ¬ (-x < 0 ↔ y < 0) by omega), L]
       refine ⟨?_, by omega, by omega, by omega⟩
       rw [H y hy2, H _ (by omega)]
     · have A : (y.natAbs : Int) = y := by omega
       rw [C, A] at B
       rw [if_neg (show ¬ (x < 0 ↔ y < 0) by omega), if_neg (show ¬ (x < 0 ↔ y < 0) by omega), if_pos (show (-x < 0 ↔ y < 0) by omega), M]
       refine ⟨?_, by omega, by omega, by omega⟩
       rw [G y (by omega), G _ (by omega)]
   · have C : (x.natAbs : Int) = x := by omega
     by_cases hy2 : y < 0
     · have A : (y.natAbs : Int) = -y := by omega
       rw [C, A, Int.neg_mul] at B
       rw [if_neg (show ¬ (x < 0 ↔ y < 0) by omega), if_neg (show ¬ (x < 0 ↔ y < 0) by omega), if_pos (show (-x < 0 ↔ y < 0) by omega), M]
       refine ⟨?_, by omega, by omega, by omega⟩
       rw [H y hy2, H _ (by omega)]
     · have A : (y.natAbs : Int) = y := by omega
       rw [C, A] at B
       rw [if_pos (show (x < 0 ↔ y < 0) by omega), if_pos (show (x < 0 ↔ y < 0) by omega), if_neg (show ¬ (-x < 0 ↔ y < 0) by omega), L]
       refine ⟨?_, by omega, by omega, by omega⟩
       rw [G y (by omega), G _ (by omega)]
end Go.Proofs.YtdncgncijbnjpaaGreat
