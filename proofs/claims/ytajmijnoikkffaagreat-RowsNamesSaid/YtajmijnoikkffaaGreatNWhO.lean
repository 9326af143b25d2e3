/-
  Whole numbers by name: contracts whose answers hold no term that the walk turns. No conditions but bounds on lengths.
  Whole numbers: Exact (of two, the second not 0). No conditions but bounds on lengths.
-/
import Derived.Test.YtajmijnoikkffaaGreatNWhM
import Derived.Test.YtajmijnoikkffaaGreatNVecC
namespace Go.Proofs.YtajmijnoikkffaaGreat
open Go.RowKit
set_option linter.unusedVariables false
set_option linter.unusedSimpArgs false

/-- A sign and words are the number x's. -/
def Nm (x : Int) (s : Bool) (l : List Nat) : Prop := s = decide (x < 0) ∧ l = limbs x.natAbs
theorem Nm.mk' (x : Int) : Nm x (decide (x < 0)) (limbs x.natAbs) := ⟨rfl, rfl⟩
theorem Nm.isZ {x : Int} {s : Bool} {l : List Nat} (h : Nm x s l) {w : World} {Z : Zone} {A : Option Addr} {c : Nat} (hu : U64s w Z A c l) : IsZ w Z (.agg #[.bool s, .slice A l.length c]) x := by
  obtain ⟨rfl, rfl⟩ := h
  exact ⟨_, rfl, A, c, rfl, hu⟩
theorem Nm.of {x : Int} {s : Bool} {l : List Nat} (h : Nm x s l) {w : World} {Z : Zone} {v : Value} (hv : IsZ w Z v x) : ∃ A c, v = .agg #[.bool s, .slice A l.length c] ∧ U64s w Z A c l := by
  obtain ⟨rfl, rfl⟩ := h
  obtain ⟨_, rfl, A, c, rfl, hu⟩ := hv
  exact ⟨A, c, rfl, hu⟩
theorem Nm.len {x : Int} {s : Bool} {l : List Nat} (h : Nm x s l) : l.length = (limbs x.natAbs).length := by rw [h.2]
theorem Nm.ok {s : Bool} {l : List Nat} (h : okI s l = true) (hs : Small l) : Nm (zof s l) s l := ⟨(zof_enc h hs).1.symm, (zof_enc h hs).2.symm⟩

theorem lz_add (x y : Int) : (limbs (x + y).natAbs).length ≤ max (limbs x.natAbs).length (limbs y.natAbs).length + 1 :=
  Nat.le_trans (len_mono (show (x + y).natAbs ≤ x.natAbs + y.natAbs by omega)) (len_add _ _)
theorem lz_mul (x y : Int) : (limbs (x * y).natAbs).length ≤ (limbs x.natAbs).length + (limbs y.natAbs).length := by
  rw [Int.natAbs_mul]
  exact len_mul _ _

theorem wadd_n {w : World} {Z1 Z2 : Zone} {x y z : Int} {s t r : Bool} {l k m : List Nat} {A B : Option Addr} {c d : Nat} (h1 : Nm x s l) (h2 : Nm y t k) (h3 : Nm z r m) (hz : x + y = z) (hl : l.length ≤ 90000000000) (hl2 : k.length ≤ 90000000000) (u1 : U64s w Z1 A c l) (u2 : U64s w Z2 B d k) :
    Calls Tryz.prog 71 #[.agg #[.bool s, .slice A l.length c], .agg #[.bool t, .slice B k.length d]] w fun e w' => ∃ Av cv, e = .returned (.tuple #[.agg #[.bool r, .slice Av m.length cv], .int .i64 0]) ∧ U64s w' (new w.heap.size) Av cv m ∧ Below w.heap.size w w' := by
  refine (wadd_z (h1.isZ u1) (h2.isZ u2) (by rw [← h1.len]; exact hl) (by rw [← h2.len]; exact hl2)).mono ?_
  rintro e w' ⟨v, rfl, hv, hb⟩
  rw [hz] at hv
  obtain ⟨Av, cv, rfl, hu⟩ := h3.of hv
  exact ⟨Av, cv, rfl, hu, hb⟩

theorem wmul_n {w : World} {Z1 Z2 : Zone} {x y z : Int} {s t r : Bool} {l k m : List Nat} {A B : Option Addr} {c d : Nat} (h1 : Nm x s l) (h2 : Nm y t k) (h3 : Nm z r m) (hz : x * y = z) (hl : l.length ≤ 90000000000) (hl2 : k.length ≤ 90000000000) (u1 : U64s w Z1 A c l) (u2 : U64s w Z2 B d k) :
    Calls Tryz.prog 42 #[.agg #[.bool s, .slice A l.length c], .agg #[.bool t, .slice B k.length d]] w fun e w' => ∃ Av cv, e = .returned (.tuple #[.agg #[.bool r, .slice Av m.length cv], .int .i64 0]) ∧ U64s w' (new w.heap.size) Av cv m ∧ Below w.heap.size w w' := by
  refine (wmul_z (h1.isZ u1) (h2.isZ u2) (by rw [← h1.len]; exact hl) (by rw [← h2.len]; exact hl2)).mono ?_
  rintro e w' ⟨v, rfl, hv, hb⟩
  rw [hz] at hv
  obtain ⟨Av, cv, rfl, hu⟩ := h3.of hv
  exact ⟨Av, cv, rfl, hu, hb⟩

theorem wneg_n {w : World} {Z1 : Zone} {x z : Int} {s r : Bool} {l m : List Nat} {A : Option Addr} {c : Nat} (h1 : Nm x s l) (h3 : Nm z r m) (hz : -x = z) (hl : l.length ≤ 90000000000) (u1 : U64s w Z1 A c l) :
    Calls Tryz.prog 44 #[.agg #[.bool s, .slice A l.length c]] w fun e w' => ∃ Av cv, e = .returned (.tuple #[.agg #[.bool r, .slice Av m.length cv], .int .i64 0]) ∧ U64s w' (new w.heap.size) Av cv m ∧ Below w.heap.size w w' := by
  refine (wneg_z (h1.isZ u1) (by rw [← h1.len]; exact hl)).mono ?_
  rintro e w' ⟨v, rfl, hv, hb⟩
  rw [hz] at hv
  obtain ⟨Av, cv, rfl, hu⟩ := h3.of hv
  exact ⟨Av, cv, rfl, hu, hb⟩

theorem same_n {w : World} {Z1 Z2 : Zone} {s : Bool} {l : List Nat} {A B : Option Addr} {c d : Nat} (u1 : U64s w Z1 A c l) (u2 : U64s w Z2 B d l) :
    Calls Tryz.prog 26 #[.agg #[.bool s, .slice A l.length c], .agg #[.bool s, .slice B l.length d]] w fun e w' => e = .returned (.bool true) ∧ Below w.heap.size w w' :=
  same5_yes ⟨_, rfl, A, c, rfl, u1⟩ ⟨_, rfl, B, d, rfl, u2⟩

theorem check_n {w : World} {Z1 : Zone} {x : Int} {s : Bool} {l : List Nat} {A : Option Addr} {c : Nat} (h1 : Nm x s l) (u1 : U64s w Z1 A c l) :
    Calls Tryz.prog 48 #[.agg #[.bool s, .slice A l.length c]] w fun e w' => e = .returned (.int .i64 0) ∧ Below w.heap.size w w' := wcheck_z (h1.isZ u1)

end Go.Proofs.YtajmijnoikkffaaGreat

namespace Go.Proofs.YtajmijnoikkffaaGreat
open Go.RowKit
set_option linter.unusedVariables false
set_option linter.unusedSimpArgs false

set_option maxRecDepth 100000 in
set_option maxHeartbeats 1000000 in
theorem wexact_yes {w : World} {Z Y : Zone} {a b : Value} {x y : Int} (ha : IsZ w Z a x) (hb : IsZ w Y b y) (hy : y ≠ 0) (hl : (limbs x.natAbs).length ≤ 10000000000) (h0 : x.natAbs % y.natAbs = 0) :
    Calls Tryz.prog 43 #[a, b] w fun e w' => ∃ v, e = .returned (.tuple #[v, .int .i64 0]) ∧ IsZ w' (new w.heap.size) v (tq x y) ∧ Below w.heap.size w w' := by
  have hr := fun (w1 : World) (h : Below w.heap.size w w1) => wquot_good (ha.below h) (hb.below h) hy hl
  have hz : decide (0 < (limbs (x.natAbs % y.natAbs)).length) = false := decide_eq_false (by rw [len_pos]; omega)
  obtain ⟨_, rfl, A, ca, rfl, hu⟩ := ha
  obtain ⟨_, rfl, B, cb, rfl, hv⟩ := hb
  obtain ⟨bA, bB, bR, hB0⟩ := boxes3 w (.bool (decide (x < 0))) (.slice A (limbs x.natAbs).length ca) (.bool (decide (y < 0))) (.slice B (limbs y.natAbs).length cb) (.bool false) (.slice none 0 0) 42
  unfold IsZ at hr ⊢
  rw [hz] at hr
  obtain ⟨s, hs⟩ : ∃ s, s = decide (tq x y < 0) := ⟨_, rfl⟩
  obtain ⟨l, hl'⟩ : ∃ l, l = limbs (tq x y).natAbs := ⟨_, rfl⟩
  obtain ⟨sx, hsx⟩ : ∃ sx, sx = decide (x < 0) := ⟨_, rfl⟩
  obtain ⟨sy, hsy⟩ : ∃ sy, sy = decide (y < 0) := ⟨_, rfl⟩
  simp only [← hs, ← hl', ← hsx, ← hsy] at hr bA bB bR hB0 ⊢
  generalize (limbs x.natAbs).length = lx at *
  generalize (limbs y.natAbs).length = ly at *
  generalize (sx != sy) = sq at *
  have Hr := Lib.hid hr
  clear hr hu hv hs hl' hsx hsy hl hy hz h0
  obtain ⟨a0, a1, _, _, _⟩ := bA
  obtain ⟨b0, b1, _, _, _⟩ := bB
  go_enter Tryz.func43, Tryz.ntmps43
  go_wp2_with fail
  refine (Hr.out _ hB0).mono ?_
  rintro e w1 ⟨_, rfl, ⟨_, rfl, Av, cv, rfl, hv⟩, hc1⟩
  have hal : Below w1.heap.size w1 (w1.alloc (.cells #[.bool s, .slice Av l.length cv] 42)) := (Below.refl _ _).alloc (Nat.le_refl _) _
  obtain ⟨x0, x1, _, _, _⟩ := Box.new w1 (.bool s) (.slice Av l.length cv) 42
  have bR1 := (bR.below hc1).below hal
  have hP := bR1.put (from_ (from_ hB0 hc1) hal) (by omega) (.bool s) (.slice Av l.length cv)
  have hiv : IsU w1 _ (.slice Av l.length cv) l := ⟨Av, cv, rfl, hv⟩
  have hu2 := hP.keep (by simp <;> omega) (hiv.below hal)
  have Hu := Lib.hid hu2
  have HP := Lib.hid hP
  obtain ⟨q0, q1, f0, f1, _⟩ := bR1
  clear hv hiv hu2 hP bR hB0 hal
  go_wp2
  refine bodyPost_ret (res_int2 rfl _ (w.heap.size + 2) rfl HP.out.c0 HP.out.c1) rfl ?_
  exact ⟨_, rfl, ⟨_, rfl, Hu.out⟩, HP.out.bel⟩

set_option maxRecDepth 100000 in
set_option maxHeartbeats 1000000 in
theorem wexact_no {w : World} {Z Y : Zone} {a b : Value} {x y : Int} (ha : IsZ w Z a x) (hb : IsZ w Y b y) (hy : y ≠ 0) (hl : (limbs x.natAbs).length ≤ 10000000000) (h0 : x.natAbs % y.natAbs ≠ 0) :
    Calls Tryz.prog 43 #[a, b] w fun e w' => e = .returned (.tuple #[.agg #[.bool false, .slice none 0 0], .int .i64 6]) ∧ Below w.heap.size w w' := by
  have hr := fun (w1 : World) (h : Below w.heap.size w w1) => wquot_good (ha.below h) (hb.below h) hy hl
  have hz : decide (0 < (limbs (x.natAbs % y.natAbs)).length) = true := decide_eq_true (by rw [len_pos]; omega)
  obtain ⟨_, rfl, A, ca, rfl, hu⟩ := ha
  obtain ⟨_, rfl, B, cb, rfl, hv⟩ := hb
  obtain ⟨bA, bB, bR, hB0⟩ := boxes3 w (.bool (decide (x < 0))) (.slice A (limbs x.natAbs).length ca) (.bool (decide (y < 0))) (.slice B (limbs y.natAbs).length cb) (.bool false) (.slice none 0 0) 42
  unfold IsZ at hr
  rw [hz] at hr
  obtain ⟨s, hs⟩ : ∃ s, s = decide (tq x y < 0) := ⟨_, rfl⟩
  obtain ⟨l, hl'⟩ : ∃ l, l = limbs (tq x y).natAbs := ⟨_, rfl⟩
  obtain ⟨sx, hsx⟩ : ∃ sx, sx = decide (x < 0) := ⟨_, rfl⟩
  obtain ⟨sy, hsy⟩ : ∃ sy, sy = decide (y < 0) := ⟨_, rfl⟩
  simp only [← hs, ← hl', ← hsx, ← hsy] at hr bA bB bR hB0 ⊢
  generalize (limbs x.natAbs).length = lx at *
  generalize (limbs y.natAbs).length = ly at *
  generalize (sx != sy) = sq at *
  have Hr := Lib.hid hr
  clear hr hu hv hs hl' hsx hsy hl hy hz h0
  obtain ⟨a0, a1, _, _, _⟩ := bA
  obtain ⟨b0, b1, _, _, _⟩ := bB
  go_enter Tryz.func43, Tryz.ntmps43
  go_wp2_with fail
  refine (Hr.out _ hB0).mono ?_
  rintro e w1 ⟨_, rfl, ⟨_, rfl, Av, cv, rfl, hv⟩, hc1⟩
  have hal : Below w1.heap.size w1 (w1.alloc (.cells #[.bool s, .slice Av l.length cv] 42)) := (Below.refl _ _).alloc (Nat.le_refl _) _
  obtain ⟨x0, x1, _, _, _⟩ := Box.new w1 (.bool s) (.slice Av l.length cv) 42
  have bR1 := (bR.below hc1).below hal
  have hP := bR1.put (from_ (from_ hB0 hc1) hal) (by omega) (.bool false) (.slice none 0 0)
  have HP := Lib.hid hP
  obtain ⟨q0, q1, f0, f1, _⟩ := bR1
  clear hv hP bR hB0 hal
  go_wp2
  refine bodyPost_ret (res_int2 rfl _ (w.heap.size + 2) rfl HP.out.c0 HP.out.c1) rfl ?_
  exact ⟨rfl, HP.out.bel⟩

end Go.Proofs.YtajmijnoikkffaaGreat
