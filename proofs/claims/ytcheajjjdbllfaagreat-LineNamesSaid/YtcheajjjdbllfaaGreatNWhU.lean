/- Quotients rounded: plain facts, and contracts by name. No conditions. -/
import Derived.Test.YtcheajjjdbllfaaGreatNWhM
import Derived.Test.YtcheajjjdbllfaaGreatNVecC
import Derived.Test.YtcheajjjdbllfaaGreatNWhJ
set_option linter.unusedVariables false
set_option linter.unusedSimpArgs false
set_option maxRecDepth 100000
set_option maxHeartbeats 40000000
namespace Go.Proofs.YtcheajjjdbllfaaGreat
open Go.RowKit
variable {A B : Option Addr} {Z Z1 Z2 : Zone} {c d : Nat} {g x y z : Int} {m : List Nat} {r s t : Bool} {w : World}
def Nm (x : Int) (s : Bool) (l : List Nat) : Prop := s = decide (x < 0) ∧ l = limbs x.natAbs
theorem Nm.mk' (x : Int) : Nm x (decide (x < 0)) (limbs x.natAbs) := ⟨rfl, rfl⟩
theorem Nm.isZ {l : List Nat} (h : Nm x s l) (hu : U64s w Z A c l) : IsZ w Z (.agg #[.bool s, .slice A l.length c]) x := by
 obtain ⟨rfl, rfl⟩ := h
 exact ⟨_, rfl, A, c, rfl, hu⟩
theorem Nm.of {l : List Nat} (h : Nm x s l) {v : Value} (hv : IsZ w Z v x) : ∃ A c, v = .agg #[.bool s, .slice A l.length c] ∧ U64s w Z A c l := by
 obtain ⟨rfl, rfl⟩ := h
 obtain ⟨_, rfl, A, c, rfl, hu⟩ := hv
 exact ⟨A, c, rfl, hu⟩
theorem Nm.len {l : List Nat} (h : Nm x s l) : l.length = (limbs x.natAbs).length := by rw [h.2]
theorem Nm.ok {l : List Nat} (h : okI s l = true) (hs : Small l) : Nm (zof s l) s l := ⟨(zof_enc h hs).1.symm, (zof_enc h hs).2.symm⟩
theorem wadd_n {l k : List Nat} (h1 : Nm x s l) (h2 : Nm y t k) (h3 : Nm z r m) (hz : x + y = z) (hl : l.length ≤ 90000000000) (hl2 : k.length ≤ 90000000000) (u1 : U64s w Z1 A c l) (u2 : U64s w Z2 B d k) :
  Calls Tryz.prog 114 #[.agg #[.bool s, .slice A l.length c], .agg #[.bool t, .slice B k.length d]] w fun e w' => ∃ Av cv, e = .returned (.tuple #[.agg #[.bool r, .slice Av m.length cv], .int .i64 0]) ∧ U64s w' (new w.heap.size) Av cv m ∧ Below w.heap.size w w' := by
 refine (wadd_z (h1.isZ u1) (h2.isZ u2) (by rw [← h1.len]; exact hl) (by rw [← h2.len]; exact hl2)).mono ?_
 rintro e w' ⟨v, rfl, hv, hb⟩
 rw [hz] at hv
 obtain ⟨Av, cv, rfl, hu⟩ := h3.of hv
 exact ⟨Av, cv, rfl, hu, hb⟩
theorem wneg_n {l : List Nat} (h1 : Nm x s l) (h3 : Nm z r m) (hz : -x = z) (hl : l.length ≤ 90000000000) (u1 : U64s w Z1 A c l) :
  Calls Tryz.prog 111 #[.agg #[.bool s, .slice A l.length c]] w fun e w' => ∃ Av cv, e = .returned (.tuple #[.agg #[.bool r, .slice Av m.length cv], .int .i64 0]) ∧ U64s w' (new w.heap.size) Av cv m ∧ Below w.heap.size w w' := by
 refine (wneg_z (h1.isZ u1) (by rw [← h1.len]; exact hl)).mono ?_
 rintro e w' ⟨v, rfl, hv, hb⟩
 rw [hz] at hv
 obtain ⟨Av, cv, rfl, hu⟩ := h3.of hv
 exact ⟨Av, cv, rfl, hu, hb⟩
theorem cmp_n {l k : List Nat} (h1 : Nm x s l) (h2 : Nm y t k) (hg : sgn (x - y) = g) (hl : l.length ≤ 90000000000) (hl2 : k.length ≤ 90000000000) (u1 : U64s w Z1 A c l) (u2 : U64s w Z2 B d k) :
  Calls Tryz.prog 87 #[.agg #[.bool s, .slice A l.length c], .agg #[.bool t, .slice B k.length d]] w fun e w' => e = .returned (.tuple #[.int .i64 g, .int .i64 0]) ∧ Below w.heap.size w w' := by
 subst hg
 exact wcmp_z (h1.isZ u1) (h2.isZ u2) (by rw [← h1.len]; exact hl) (by rw [← h2.len]; exact hl2)
theorem sign_n {l : List Nat} (h1 : Nm x s l) (hg : sgn x = g) (u1 : U64s w Z1 A c l) :
  Calls Tryz.prog 115 #[.agg #[.bool s, .slice A l.length c]] w fun e w' => e = .returned (.tuple #[.int .i64 g, .int .i64 0]) ∧ Below w.heap.size w w' := by
 subst hg
 exact wSign_z (h1.isZ u1)
end Go.Proofs.YtcheajjjdbllfaaGreat
