/-
  Whole numbers by name: contracts whose answers hold no term that the walk turns. No conditions but bounds on lengths.
  Whole numbers: Exact (of two, the second not 0). No conditions but bounds on lengths.
  Whole numbers: quotient where a number is none. No conditions but bounds on lengths.
  Whole numbers: rounded, Floor, Ceil where a number is none, or the second one is 0. No conditions but bounds on lengths.
  Quotients rounded: plain facts, and contracts by name. No conditions.
  Whole numbers: Floor, Ceil, Exact at any words: what they answer. No conditions but bounds on lengths.
-/
import Derived.Test.YtennphechbngcaaMWhM
import Derived.Test.YtennphechbngcaaMVecC
import Derived.Test.YtennphechbngcaaMWhJ
namespace Go.Proofs.Ytennphechbngcaa
open Go.RowKit
set_option linter.unusedVariables false
set_option linter.unusedSimpArgs false

/-- A sign and words are the number x's. -/
def Nm (x : Int) (s : Bool) (l : List Nat) : Prop := s = decide (x < 0) ∧ l = limbs x.natAbs
theorem Nm.isZ {x : Int} {s : Bool} {l : List Nat} (h : Nm x s l) {w : World} {Z : Zone} {A : Option Addr} {c : Nat} (hu : U64s w Z A c l) : IsZ w Z (.agg #[.bool s, .slice A l.length c]) x := by
  obtain ⟨rfl, rfl⟩ := h
  exact ⟨_, rfl, A, c, rfl, hu⟩
theorem Nm.of {x : Int} {s : Bool} {l : List Nat} (h : Nm x s l) {w : World} {Z : Zone} {v : Value} (hv : IsZ w Z v x) : ∃ A c, v = .agg #[.bool s, .slice A l.length c] ∧ U64s w Z A c l := by
  obtain ⟨rfl, rfl⟩ := h
  obtain ⟨_, rfl, A, c, rfl, hu⟩ := hv
  exact ⟨A, c, rfl, hu⟩
theorem Nm.len {x : Int} {s : Bool} {l : List Nat} (h : Nm x s l) : l.length = (limbs x.natAbs).length := by rw [h.2]
theorem Nm.ok {s : Bool} {l : List Nat} (h : okI s l = true) (hs : Small l) : Nm (zof s l) s l := ⟨(zof_enc h hs).1.symm, (zof_enc h hs).2.symm⟩

theorem wadd_n {w : World} {Z1 Z2 : Zone} {x y z : Int} {s t r : Bool} {l k m : List Nat} {A B : Option Addr} {c d : Nat} (h1 : Nm x s l) (h2 : Nm y t k) (h3 : Nm z r m) (hz : x + y = z) (hl : l.length ≤ 90000000000) (hl2 : k.length ≤ 90000000000) (u1 : U64s w Z1 A c l) (u2 : U64s w Z2 B d k) :
    Calls Try.prog 88 #[.agg #[.bool s, .slice A l.length c], .agg #[.bool t, .slice B k.length d]] w fun e w' => ∃ Av cv, e = .returned (.tuple #[.agg #[.bool r, .slice Av m.length cv], .int .i64 0]) ∧ U64s w' (new w.heap.size) Av cv m ∧ Below w.heap.size w w' := by
  refine (wadd_z (h1.isZ u1) (h2.isZ u2) (by rw [← h1.len]; exact hl) (by rw [← h2.len]; exact hl2)).mono ?_
  rintro e w' ⟨v, rfl, hv, hb⟩
  rw [hz] at hv
  obtain ⟨Av, cv, rfl, hu⟩ := h3.of hv
  exact ⟨Av, cv, rfl, hu, hb⟩

theorem wmul_n {w : World} {Z1 Z2 : Zone} {x y z : Int} {s t r : Bool} {l k m : List Nat} {A B : Option Addr} {c d : Nat} (h1 : Nm x s l) (h2 : Nm y t k) (h3 : Nm z r m) (hz : x * y = z) (hl : l.length ≤ 90000000000) (hl2 : k.length ≤ 90000000000) (u1 : U64s w Z1 A c l) (u2 : U64s w Z2 B d k) :
    Calls Try.prog 85 #[.agg #[.bool s, .slice A l.length c], .agg #[.bool t, .slice B k.length d]] w fun e w' => ∃ Av cv, e = .returned (.tuple #[.agg #[.bool r, .slice Av m.length cv], .int .i64 0]) ∧ U64s w' (new w.heap.size) Av cv m ∧ Below w.heap.size w w' := by
  refine (wmul_z (h1.isZ u1) (h2.isZ u2) (by rw [← h1.len]; exact hl) (by rw [← h2.len]; exact hl2)).mono ?_
  rintro e w' ⟨v, rfl, hv, hb⟩
  rw [hz] at hv
  obtain ⟨Av, cv, rfl, hu⟩ := h3.of hv
  exact ⟨Av, cv, rfl, hu, hb⟩

theorem wneg_n {w : World} {Z1 : Zone} {x z : Int} {s r : Bool} {l m : List Nat} {A : Option Addr} {c : Nat} (h1 : Nm x s l) (h3 : Nm z r m) (hz : -x = z) (hl : l.length ≤ 90000000000) (u1 : U64s w Z1 A c l) :
    Calls Try.prog 76 #[.agg #[.bool s, .slice A l.length c]] w fun e w' => ∃ Av cv, e = .returned (.tuple #[.agg #[.bool r, .slice Av m.length cv], .int .i64 0]) ∧ U64s w' (new w.heap.size) Av cv m ∧ Below w.heap.size w w' := by
  refine (wneg_z (h1.isZ u1) (by rw [← h1.len]; exact hl)).mono ?_
  rintro e w' ⟨v, rfl, hv, hb⟩
  rw [hz] at hv
  obtain ⟨Av, cv, rfl, hu⟩ := h3.of hv
  exact ⟨Av, cv, rfl, hu, hb⟩

theorem cmp_n {w : World} {Z1 Z2 : Zone} {x y : Int} {s t : Bool} {l k : List Nat} {A B : Option Addr} {c d : Nat} {g : Int} (h1 : Nm x s l) (h2 : Nm y t k) (hg : sgn (x - y) = g) (hl : l.length ≤ 90000000000) (hl2 : k.length ≤ 90000000000) (u1 : U64s w Z1 A c l) (u2 : U64s w Z2 B d k) :
    Calls Try.prog 35 #[.agg #[.bool s, .slice A l.length c], .agg #[.bool t, .slice B k.length d]] w fun e w' => e = .returned (.tuple #[.int .i64 g, .int .i64 0]) ∧ Below w.heap.size w w' := by
  subst hg
  exact wcmp_z (h1.isZ u1) (h2.isZ u2) (by rw [← h1.len]; exact hl) (by rw [← h2.len]; exact hl2)

theorem sign_n {w : World} {Z1 : Zone} {x : Int} {s : Bool} {l : List Nat} {A : Option Addr} {c : Nat} {g : Int} (h1 : Nm x s l) (hg : sgn x = g) (u1 : U64s w Z1 A c l) :
    Calls Try.prog 89 #[.agg #[.bool s, .slice A l.length c]] w fun e w' => e = .returned (.tuple #[.int .i64 g, .int .i64 0]) ∧ Below w.heap.size w w' := by
  subst hg
  exact wSign_z (h1.isZ u1)

end Go.Proofs.Ytennphechbngcaa

namespace Go.Proofs.Ytennphechbngcaa
open Go.RowKit
set_option linter.unusedVariables false
set_option linter.unusedSimpArgs false

end Go.Proofs.Ytennphechbngcaa

namespace Go.Proofs.Ytennphechbngcaa
open Go.RowKit
set_option linter.unusedVariables false
set_option linter.unusedSimpArgs false

end Go.Proofs.Ytennphechbngcaa

namespace Go.Proofs.Ytennphechbngcaa
open Go.RowKit
set_option linter.unusedVariables false
set_option linter.unusedSimpArgs false

end Go.Proofs.Ytennphechbngcaa

namespace Go.Proofs.Ytennphechbngcaa
open Go.RowKit
set_option linter.unusedVariables false
set_option linter.unusedSimpArgs false

end Go.Proofs.Ytennphechbngcaa

namespace Go.Proofs.Ytennphechbngcaa
open Go.RowKit
set_option linter.unusedVariables false
set_option linter.unusedSimpArgs false

end Go.Proofs.Ytennphechbngcaa
