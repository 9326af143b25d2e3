/-
  Whole numbers by name: contracts whose answers hold no term that the walk turns. No conditions but bounds on lengths.
  Whole numbers: Exact (of two, the second not 0). No conditions but bounds on lengths.
  Whole numbers: quotient where a number is none. No conditions but bounds on lengths.
  Whole numbers: rounded, Floor, Ceil where a number is none, or the second one is 0. No conditions but bounds on lengths.
  Quotients rounded: plain facts, and contracts by name. No conditions.
-/
import Derived.Test.YtamenhffplhddaaGreatLWhM
import Derived.Test.YtamenhffplhddaaGreatLVecC
import Derived.Test.YtamenhffplhddaaGreatLWhJ
namespace Go.Proofs.YtamenhffplhddaaGreat
open Go.RowKit
set_option linter.unusedVariables false
set_option linter.unusedSimpArgs false

/-- A sign and words are the number x's. -/
def Nm (x : Int) (s : Bool) (l : List Nat) : Prop := s = decide (x < 0) ∧ l = limbs x.natAbs
theorem Nm.mk' (x : Int) : Nm x (decide (x < 0)) (limbs x.natAbs) := ⟨rfl, rfl⟩
theorem Nm.isZ {x : Int} {s : Bool} {l : List Nat} (h : Nm x s l) {w : World} {Z : Zone} {A : Option Addr} {c : Nat} (hu : U64s w Z A c l) : IsZ w Z (.agg #[.bool s, .slice A l.length c]) x := by
  obtain ⟨rfl, rfl⟩ := h
  exact ⟨_, rfl, A, c, rfl, hu⟩
theorem Nm.of {x : Int} {s : Bool} {l : List Nat} (h : Nm x s l) {w : World} {Z : Zone} {v : Value} (hv : IsZ w Z v x) : ∃ A c, v = .agg #[.bool s, .slice A l.length c] ∧ U64s w Z A c l := by
  obtain ⟨rfl, rfl⟩ := h
  obtain ⟨_, rfl, A, c, rfl, hu⟩ := hv
  exact ⟨A, c, rfl, hu⟩
theorem Nm.len {x : Int} {s : Bool} {l : List Nat} (h : Nm x s l) : l.length = (limbs x.natAbs).length := by rw [h.2]
theorem Nm.ok {s : Bool} {l : List Nat} (h : okI s l = true) (hs : Small l) : Nm (zof s l) s l := ⟨(zof_enc h hs).1.symm, (zof_enc h hs).2.symm⟩

theorem lz_add (x y : Int) : (limbs (x + y).natAbs).length ≤ max (limbs x.natAbs).length (limbs y.natAbs).length + 1 :=
  Nat.le_trans (len_mono (show (x + y).natAbs ≤ x.natAbs + y.natAbs by omega)) (len_add _ _)
theorem lz_mul (x y : Int) : (limbs (x * y).natAbs).length ≤ (limbs x.natAbs).length + (limbs y.natAbs).length := by
  rw [Int.natAbs_mul]
  exact len_mul _ _

theorem wadd_n {w : World} {Z1 Z2 : Zone} {x y z : Int} {s t r : Bool} {l k m : List Nat} {A B : Option Addr} {c d : Nat} (h1 : Nm x s l) (h2 : Nm y t k) (h3 : Nm z r m) (hz : x + y = z) (hl : l.length ≤ 90000000000) (hl2 : k.length ≤ 90000000000) (u1 : U64s w Z1 A c l) (u2 : U64s w Z2 B d k) :
    Calls Tryz.prog 12 #[.agg #[.bool s, .slice A l.length c], .agg #[.bool t, .slice B k.length d]] w fun e w' => ∃ Av cv, e = .returned (.tuple #[.agg #[.bool r, .slice Av m.length cv], .int .i64 0]) ∧ U64s w' (new w.heap.size) Av cv m ∧ Below w.heap.size w w' := by
  refine (wadd_z (h1.isZ u1) (h2.isZ u2) (by rw [← h1.len]; exact hl) (by rw [← h2.len]; exact hl2)).mono ?_
  rintro e w' ⟨v, rfl, hv, hb⟩
  rw [hz] at hv
  obtain ⟨Av, cv, rfl, hu⟩ := h3.of hv
  exact ⟨Av, cv, rfl, hu, hb⟩

theorem wsub_n {w : World} {Z1 Z2 : Zone} {x y z : Int} {s t r : Bool} {l k m : List Nat} {A B : Option Addr} {c d : Nat} (h1 : Nm x s l) (h2 : Nm y t k) (h3 : Nm z r m) (hz : x - y = z) (hl : l.length ≤ 90000000000) (hl2 : k.length ≤ 90000000000) (u1 : U64s w Z1 A c l) (u2 : U64s w Z2 B d k) :
    Calls Tryz.prog 24 #[.agg #[.bool s, .slice A l.length c], .agg #[.bool t, .slice B k.length d]] w fun e w' => ∃ Av cv, e = .returned (.tuple #[.agg #[.bool r, .slice Av m.length cv], .int .i64 0]) ∧ U64s w' (new w.heap.size) Av cv m ∧ Below w.heap.size w w' := by
  refine (wsub_z (h1.isZ u1) (h2.isZ u2) (by rw [← h1.len]; exact hl) (by rw [← h2.len]; exact hl2)).mono ?_
  rintro e w' ⟨v, rfl, hv, hb⟩
  rw [hz] at hv
  obtain ⟨Av, cv, rfl, hu⟩ := h3.of hv
  exact ⟨Av, cv, rfl, hu, hb⟩

theorem wmul_n {w : World} {Z1 Z2 : Zone} {x y z : Int} {s t r : Bool} {l k m : List Nat} {A B : Option Addr} {c d : Nat} (h1 : Nm x s l) (h2 : Nm y t k) (h3 : Nm z r m) (hz : x * y = z) (hl : l.length ≤ 90000000000) (hl2 : k.length ≤ 90000000000) (u1 : U64s w Z1 A c l) (u2 : U64s w Z2 B d k) :
    Calls Tryz.prog 14 #[.agg #[.bool s, .slice A l.length c], .agg #[.bool t, .slice B k.length d]] w fun e w' => ∃ Av cv, e = .returned (.tuple #[.agg #[.bool r, .slice Av m.length cv], .int .i64 0]) ∧ U64s w' (new w.heap.size) Av cv m ∧ Below w.heap.size w w' := by
  refine (wmul_z (h1.isZ u1) (h2.isZ u2) (by rw [← h1.len]; exact hl) (by rw [← h2.len]; exact hl2)).mono ?_
  rintro e w' ⟨v, rfl, hv, hb⟩
  rw [hz] at hv
  obtain ⟨Av, cv, rfl, hu⟩ := h3.of hv
  exact ⟨Av, cv, rfl, hu, hb⟩

theorem wneg_n {w : World} {Z1 : Zone} {x z : Int} {s r : Bool} {l m : List Nat} {A : Option Addr} {c : Nat} (h1 : Nm x s l) (h3 : Nm z r m) (hz : -x = z) (hl : l.length ≤ 90000000000) (u1 : U64s w Z1 A c l) :
    Calls Tryz.prog 16 #[.agg #[.bool s, .slice A l.length c]] w fun e w' => ∃ Av cv, e = .returned (.tuple #[.agg #[.bool r, .slice Av m.length cv], .int .i64 0]) ∧ U64s w' (new w.heap.size) Av cv m ∧ Below w.heap.size w w' := by
  refine (wneg_z (h1.isZ u1) (by rw [← h1.len]; exact hl)).mono ?_
  rintro e w' ⟨v, rfl, hv, hb⟩
  rw [hz] at hv
  obtain ⟨Av, cv, rfl, hu⟩ := h3.of hv
  exact ⟨Av, cv, rfl, hu, hb⟩

theorem same_n {w : World} {Z1 Z2 : Zone} {s : Bool} {l : List Nat} {A B : Option Addr} {c d : Nat} (u1 : U64s w Z1 A c l) (u2 : U64s w Z2 B d l) :
    Calls Tryz.prog 109 #[.agg #[.bool s, .slice A l.length c], .agg #[.bool s, .slice B l.length d]] w fun e w' => e = .returned (.bool true) ∧ Below w.heap.size w w' :=
  same5_yes ⟨_, rfl, A, c, rfl, u1⟩ ⟨_, rfl, B, d, rfl, u2⟩

theorem check_n {w : World} {Z1 : Zone} {x : Int} {s : Bool} {l : List Nat} {A : Option Addr} {c : Nat} (h1 : Nm x s l) (u1 : U64s w Z1 A c l) :
    Calls Tryz.prog 44 #[.agg #[.bool s, .slice A l.length c]] w fun e w' => e = .returned (.int .i64 0) ∧ Below w.heap.size w w' := wcheck_z (h1.isZ u1)

theorem cmp_n {w : World} {Z1 Z2 : Zone} {x y : Int} {s t : Bool} {l k : List Nat} {A B : Option Addr} {c d : Nat} {g : Int} (h1 : Nm x s l) (h2 : Nm y t k) (hg : sgn (x - y) = g) (hl : l.length ≤ 90000000000) (hl2 : k.length ≤ 90000000000) (u1 : U64s w Z1 A c l) (u2 : U64s w Z2 B d k) :
    Calls Tryz.prog 75 #[.agg #[.bool s, .slice A l.length c], .agg #[.bool t, .slice B k.length d]] w fun e w' => e = .returned (.tuple #[.int .i64 g, .int .i64 0]) ∧ Below w.heap.size w w' := by
  subst hg
  exact wcmp_z (h1.isZ u1) (h2.isZ u2) (by rw [← h1.len]; exact hl) (by rw [← h2.len]; exact hl2)

theorem sign_n {w : World} {Z1 : Zone} {x : Int} {s : Bool} {l : List Nat} {A : Option Addr} {c : Nat} {g : Int} (h1 : Nm x s l) (hg : sgn x = g) (u1 : U64s w Z1 A c l) :
    Calls Tryz.prog 108 #[.agg #[.bool s, .slice A l.length c]] w fun e w' => e = .returned (.tuple #[.int .i64 g, .int .i64 0]) ∧ Below w.heap.size w w' := by
  subst hg
  exact wSign_z (h1.isZ u1)

end Go.Proofs.YtamenhffplhddaaGreat

namespace Go.Proofs.YtamenhffplhddaaGreat
open Go.RowKit
set_option linter.unusedVariables false
set_option linter.unusedSimpArgs false

end Go.Proofs.YtamenhffplhddaaGreat

namespace Go.Proofs.YtamenhffplhddaaGreat
open Go.RowKit
set_option linter.unusedVariables false
set_option linter.unusedSimpArgs false

set_option maxRecDepth 100000 in
set_option maxHeartbeats 1000000 in
theorem wquot_bad {w : World} {Z Y : Zone} {a b : Value} {s t : Bool} {la lb : List Nat} (ha : IsI w Z a s la) (hb : IsI w Y b t lb) (hok : ¬ (okI s la = true ∧ okI t lb = true)) :
    Calls Tryz.prog 105 #[a, b] w fun e w' => e = .returned (.tuple #[.agg #[.bool false, .slice none 0 0], .bool false, .bool false, .int .i64 8]) ∧ Below w.heap.size w w' := by
  obtain ⟨_, rfl, A, ca, rfl, hu⟩ := ha
  obtain ⟨_, rfl, B, cb, rfl, hv⟩ := hb
  have ua : IsU w Z (.slice A la.length ca) la := ⟨A, ca, rfl, hu⟩
  have ub : IsU w Y (.slice B lb.length cb) lb := ⟨B, cb, rfl, hv⟩
  obtain ⟨bA, bB, bR, hB0⟩ := boxes3 w (.bool s) (.slice A la.length ca) (.bool t) (.slice B lb.length cb) (.bool false) (.slice none 0 0) 25
  have hg := given_twoI (s := s) (t := t) (ty := 25) (IsU.below ua hB0) (IsU.below ub hB0)
  have hg2 : (((w.alloc (.cells #[.bool s, .slice A la.length ca] 25)).alloc (.cells #[.bool t, .slice B lb.length cb] 25)).alloc (.cells #[.bool false, .slice none 0 0] 25)).heap.size = w.heap.size + 3 := by simp
  rw [hg2] at hg
  have hck := wchecked_any (n := 2) (c := 2) hg rfl (by simp)
  have e0 : errCs [(s, la), (t, lb)] = 8 := by
    unfold errCs
    rw [if_neg]
    simpa using hok
  rw [e0] at hck
  have hb1 := hB0.alloc hB0.size (.cells #[.bool s, .slice A la.length ca, .bool t, .slice B lb.length cb] 25)
  have Hck := Lib.hid hck
  clear hg hg2 hu hv hck e0 ua ub hok
  obtain ⟨a0, a1, _, _, _⟩ := bA
  obtain ⟨b0, b1, _, _, _⟩ := bB
  generalize la.length = lm at *
  generalize lb.length = ln at *
  go_enter Tryz.func105, Tryz.ntmps105
  go_wp2_with fail
  refine Hck.out.mono ?_
  rintro e w1 ⟨rfl, hc1⟩
  have bR1 := (bR.alloc (.cells #[.bool _, .slice A lm ca, .bool _, .slice B ln cb] 25)).below hc1
  have hB1 := from_ hb1 hc1
  obtain ⟨q0, q1, f0, f1, _⟩ := bR1
  clear bR hB0 hb1 Hck hc1
  go_wp2
  refine bodyPost_ret (res_int4 rfl _ (w.heap.size + 2) rfl q0 q1) rfl ?_
  exact ⟨by first | rfl | (simp; done), hB1⟩

set_option maxRecDepth 100000 in
set_option maxHeartbeats 1000000 in
theorem wquot_zero {w : World} {Z Y : Zone} {a b : Value} {s t : Bool} {la : List Nat} (ha : IsI w Z a s la) (hb : IsI w Y b t []) (hok : okI s la = true) (hot : okI t [] = true) (hE : errD la [] = 30) (hl : la.length ≤ 10000000000) :
    Calls Tryz.prog 105 #[a, b] w fun e w' => ∃ Av cv, e = .returned (.tuple #[.agg #[.bool false, .slice Av 0 cv], .bool false, .bool (s != t), .int .i64 30]) ∧ U64s w' (new w.heap.size) Av cv [] ∧ Below w.heap.size w w' := by
  obtain ⟨_, rfl, A, ca, rfl, hu⟩ := ha
  obtain ⟨_, rfl, B, cb, rfl, hv⟩ := hb
  have ua : IsU w Z (.slice A la.length ca) la := ⟨A, ca, rfl, hu⟩
  have ub : IsU w Y (.slice B ([] : List Nat).length cb) [] := ⟨B, cb, rfl, hv⟩
  obtain ⟨bA, bB, bR, hB0⟩ := boxes3 w (.bool s) (.slice A la.length ca) (.bool t) (.slice B ([] : List Nat).length cb) (.bool false) (.slice none 0 0) 25
  have hg := given_twoI (s := s) (t := t) (ty := 25) (IsU.below ua hB0) (IsU.below ub hB0)
  have hg2 : (((w.alloc (.cells #[.bool s, .slice A la.length ca] 25)).alloc (.cells #[.bool t, .slice B ([] : List Nat).length cb] 25)).alloc (.cells #[.bool false, .slice none 0 0] 25)).heap.size = w.heap.size + 3 := by simp
  rw [hg2] at hg
  have hck := wchecked_any (n := 2) (c := 2) hg rfl (by simp)
  have e0 : errCs [(s, la), (t, [])] = 0 := by simp [errCs, hok, hot]
  rw [e0] at hck
  have hb1 := hB0.alloc hB0.size (.cells #[.bool s, .slice A la.length ca, .bool t, .slice B ([] : List Nat).length cb] 25)
  have hq : quoL la [] = [] := by unfold quoL; rw [if_neg (by rw [hE]; decide)]
  have hr : remL la [] = [] := by unfold remL; rw [if_neg (by rw [hE]; decide)]
  have hdv := fun (w1 : World) (h : Below w.heap.size w w1) => ddiv_all (ua.below h) (ub.below h) (by omega)
  rw [hE, hq, hr] at hdv
  have Hck := Lib.hid hck
  have Hdv := Lib.hid hdv
  have Ht1 : Hid (∀ q : Bool, (q && decide (0 < ([] : List Nat).length)) = false) := fun q => by cases q <;> rfl
  clear hg hg2 hu hv hck hdv e0 ua ub hok hot hq hr hE hl
  obtain ⟨a0, a1, _, _, _⟩ := bA
  obtain ⟨b0, b1, _, _, _⟩ := bB
  generalize la.length = lm at *
  generalize ([] : List Nat).length = ln at a0 a1 b0 b1 bR hB0 hb1 Hck Hdv
  have a0 := keepC (Below.refl_alloc hB0 (.cells #[.bool s, .slice A lm ca, .bool t, .slice B ln cb] 25)) a0
  have a1 := keepC (Below.refl_alloc hB0 (.cells #[.bool s, .slice A lm ca, .bool t, .slice B ln cb] 25)) a1
  have b0 := keepC (Below.refl_alloc hB0 (.cells #[.bool s, .slice A lm ca, .bool t, .slice B ln cb] 25)) b0
  have b1 := keepC (Below.refl_alloc hB0 (.cells #[.bool s, .slice A lm ca, .bool t, .slice B ln cb] 25)) b1
  cases s <;> cases t
  all_goals
    go_enter Tryz.func105, Tryz.ntmps105
    go_wp2_with fail
    refine Hck.out.mono ?_
    rintro e w1 ⟨rfl, hc1⟩
    have bR1 := (bR.alloc (.cells #[.bool _, .slice A lm ca, .bool _, .slice B ln cb] 25)).below hc1
    have a0 := keepC hc1 a0
    have a1 := keepC hc1 a1
    have b0 := keepC hc1 b0
    have b1 := keepC hc1 b1
    have hB1 := from_ hb1 hc1
    have hz2 : w.heap.size + 2 < w1.heap.size := bR1.lt
    clear bR hB0 hb1 Hck hc1
    go_wp2_with fail
    refine (Hdv.out _ hB1).mono ?_
    rintro e w2 ⟨_, _, rfl, ⟨Aq, cq, rfl, hq⟩, ⟨Ar, cr, rfl, hr⟩, hc2⟩
    have iq : IsU w2 _ (.slice Aq ([] : List Nat).length cq) [] := ⟨Aq, cq, rfl, hq⟩
    have a0 := keepC hc2 a0
    have b0 := keepC hc2 b0
    have bR2 := bR1.below hc2
    have hB2 := from_ hB1 hc2
    clear hr hq bR1 hB1
    go_wp2_with fail
    refine (made_at iq (Ht1.out _)).mono ?_
    rintro e w3 ⟨rfl, hc3⟩
    have bR3 := bR2.below hc3
    have hP := bR3.put (from_ hB2 hc3) (by omega) (.bool false) (.slice Aq 0 cq)
    have hu2 := hP.keep (by omega) (iq.below hc3)
    have Hu := Lib.hid hu2
    have HP := Lib.hid hP
    obtain ⟨q0, q1, f0, f1, _⟩ := bR3
    clear hP hu2 iq bR2 hB2
    go_wp2
    refine bodyPost_ret (res_int4 rfl _ (w.heap.size + 2) rfl HP.out.c0 HP.out.c1) rfl ?_
    obtain ⟨A9, c9, h9, h10⟩ := Hu.out
    cases h9
    refine ⟨_, _, ?_, h10, HP.out.bel⟩
    first | rfl | (simp; done)

end Go.Proofs.YtamenhffplhddaaGreat

namespace Go.Proofs.YtamenhffplhddaaGreat
open Go.RowKit
set_option linter.unusedVariables false
set_option linter.unusedSimpArgs false

set_option maxRecDepth 100000 in
set_option maxHeartbeats 1000000 in
theorem wrounded_err {w : World} {Z Y : Zone} {a b : Value} {s t : Bool} {la lb : List Nat} {E : Int} {d : Bool} (ha : IsI w Z a s la) (hb : IsI w Y b t lb) (hE : E = 8 ∨ E = 30) (hq : ∀ w1, Below w.heap.size w w1 → Calls Tryz.prog 105 #[a, b] w1 (fun e w' => (∃ Av cv L, e = .returned (.tuple #[.agg #[.bool false, .slice Av 0 cv], .bool false, .bool L, .int .i64 E])) ∧ Below w1.heap.size w1 w')) :
    Calls Tryz.prog 62 #[a, b, .bool d] w fun e w' => e = .returned (.tuple #[.agg #[.bool false, .slice none 0 0], .int .i64 E]) ∧ Below w.heap.size w w' := by
  obtain ⟨_, rfl, A, ca, rfl, hu⟩ := ha
  obtain ⟨_, rfl, B, cb, rfl, hv⟩ := hb
  obtain ⟨bA, bB, bR, hB0⟩ := boxes3 w (.bool s) (.slice A la.length ca) (.bool t) (.slice B lb.length cb) (.bool false) (.slice none 0 0) 25
  generalize la.length = lx at *
  generalize lb.length = ly at *
  have Hquot := Lib.hid hq
  clear hq hu hv
  obtain ⟨a0, a1, _, _, _⟩ := bA
  obtain ⟨b0, b1, _, _, _⟩ := bB
  rcases hE with rfl | rfl
  all_goals
    go_enter Tryz.func62, Tryz.ntmps62
    go_wp2_with fail
    refine (Hquot.out _ hB0).mono ?_
    rintro e w1 ⟨⟨Aq, cq, L, rfl⟩, hc1⟩
    have hal : Below w1.heap.size w1 (w1.alloc (.cells #[.bool false, .slice Aq 0 cq] 25)) := (Below.refl _ _).alloc (Nat.le_refl _) _
    have bRw := bR.below hc1
    have bR1 := bRw.below hal
    have bQ := Box.new w1 (.bool false) (.slice Aq 0 cq) 25
    have hBw := from_ hB0 hc1
    have hB1 := from_ hBw hal
    have hz2 : w.heap.size + 2 < w1.heap.size := bRw.lt
    clear bR hB0 hc1 hal
    obtain ⟨c0, c1, _, _, _⟩ := bQ
    have hP := bRw.put hBw (by omega) (.bool false) (.slice none 0 0)
    have hbx := hP.box.alloc (.cells #[.bool false, .slice Aq 0 cq] 25)
    have hbl := hP.bel.alloc hP.bel.size (.cells #[.bool false, .slice Aq 0 cq] 25)
    have Hbx := Lib.hid hbx
    have Hbl := Lib.hid hbl
    obtain ⟨q0, q1, f0, f1, _⟩ := (show Box w1 (w.heap.size + 1 + 1) _ _ from bRw)
    have hne : ¬ (w1.heap.size = w.heap.size + 1 + 1) := by omega
    have hne2 : ¬ (w.heap.size + 1 + 1 = w1.heap.size) := by omega
    clear hP hbx hbl bR1 hB1 hBw
    go_wp2
    refine bodyPost_ret (res_int2 rfl _ (w.heap.size + 2) rfl Hbx.out.c0 Hbx.out.c1) rfl ?_
    exact ⟨rfl, Hbl.out⟩

set_option maxRecDepth 100000 in
set_option maxHeartbeats 1000000 in
theorem wfloor_err {w : World} {Z Y : Zone} {a b : Value} {s t : Bool} {la lb : List Nat} {E : Int} (ha : IsI w Z a s la) (hb : IsI w Y b t lb) (hE : E = 8 ∨ E = 30) (hq : ∀ w1, Below w.heap.size w w1 → Calls Tryz.prog 105 #[a, b] w1 (fun e w' => (∃ Av cv L, e = .returned (.tuple #[.agg #[.bool false, .slice Av 0 cv], .bool false, .bool L, .int .i64 E])) ∧ Below w1.heap.size w1 w')) :
    Calls Tryz.prog 20 #[a, b] w fun e w' => e = .returned (.tuple #[.agg #[.bool false, .slice none 0 0], .int .i64 E]) ∧ Below w.heap.size w w' := by
  have hr := fun (w1 : World) (h : Below w.heap.size w w1) => wrounded_err (d := true) (IsI.below ha h) (IsI.below hb h) hE (fun w2 h2 => hq w2 (from_ h h2))
  obtain ⟨_, rfl, A, ca, rfl, hu⟩ := ha
  obtain ⟨_, rfl, B, cb, rfl, hv⟩ := hb
  obtain ⟨bA, bB, bR, hB0⟩ := boxes3 w (.bool s) (.slice A la.length ca) (.bool t) (.slice B lb.length cb) (.bool false) (.slice none 0 0) 25
  generalize la.length = lx at *
  generalize lb.length = ly at *
  have Hr := Lib.hid hr
  clear hr hu hv hq hE
  obtain ⟨a0, a1, _, _, _⟩ := bA
  obtain ⟨b0, b1, _, _, _⟩ := bB
  go_enter Tryz.func20, Tryz.ntmps20
  go_wp2_with fail
  refine (Hr.out _ hB0).mono ?_
  rintro e w1 ⟨rfl, hc1⟩
  have bR1 := bR.below hc1
  have hP := bR1.put (from_ hB0 hc1) (by omega) (.bool false) (.slice none 0 0)
  have HP := Lib.hid hP
  obtain ⟨q0, q1, f0, f1, _⟩ := bR1
  clear hP bR hB0
  go_wp2
  refine bodyPost_ret (res_int2 rfl _ (w.heap.size + 2) rfl HP.out.c0 HP.out.c1) rfl ?_
  exact ⟨rfl, HP.out.bel⟩

set_option maxRecDepth 100000 in
set_option maxHeartbeats 1000000 in
theorem wceil_err {w : World} {Z Y : Zone} {a b : Value} {s t : Bool} {la lb : List Nat} {E : Int} (ha : IsI w Z a s la) (hb : IsI w Y b t lb) (hE : E = 8 ∨ E = 30) (hq : ∀ w1, Below w.heap.size w w1 → Calls Tryz.prog 105 #[a, b] w1 (fun e w' => (∃ Av cv L, e = .returned (.tuple #[.agg #[.bool false, .slice Av 0 cv], .bool false, .bool L, .int .i64 E])) ∧ Below w1.heap.size w1 w')) :
    Calls Tryz.prog 23 #[a, b] w fun e w' => e = .returned (.tuple #[.agg #[.bool false, .slice none 0 0], .int .i64 E]) ∧ Below w.heap.size w w' := by
  have hr := fun (w1 : World) (h : Below w.heap.size w w1) => wrounded_err (d := false) (IsI.below ha h) (IsI.below hb h) hE (fun w2 h2 => hq w2 (from_ h h2))
  obtain ⟨_, rfl, A, ca, rfl, hu⟩ := ha
  obtain ⟨_, rfl, B, cb, rfl, hv⟩ := hb
  obtain ⟨bA, bB, bR, hB0⟩ := boxes3 w (.bool s) (.slice A la.length ca) (.bool t) (.slice B lb.length cb) (.bool false) (.slice none 0 0) 25
  generalize la.length = lx at *
  generalize lb.length = ly at *
  have Hr := Lib.hid hr
  clear hr hu hv hq hE
  obtain ⟨a0, a1, _, _, _⟩ := bA
  obtain ⟨b0, b1, _, _, _⟩ := bB
  go_enter Tryz.func23, Tryz.ntmps23
  go_wp2_with fail
  refine (Hr.out _ hB0).mono ?_
  rintro e w1 ⟨rfl, hc1⟩
  have bR1 := bR.below hc1
  have hP := bR1.put (from_ hB0 hc1) (by omega) (.bool false) (.slice none 0 0)
  have HP := Lib.hid hP
  obtain ⟨q0, q1, f0, f1, _⟩ := bR1
  clear hP bR hB0
  go_wp2
  refine bodyPost_ret (res_int2 rfl _ (w.heap.size + 2) rfl HP.out.c0 HP.out.c1) rfl ?_
  exact ⟨rfl, HP.out.bel⟩

theorem round_bad {w : World} {Z1 Z2 : Zone} {s t : Bool} {l k : List Nat} {A B : Option Addr} {c d : Nat} (h : ¬ (okI s l = true ∧ okI t k = true)) (u1 : U64s w Z1 A c l) (u2 : U64s w Z2 B d k) :
    (Calls Tryz.prog 20 #[.agg #[.bool s, .slice A l.length c], .agg #[.bool t, .slice B k.length d]] w fun e w' => e = .returned (.tuple #[.agg #[.bool false, .slice none 0 0], .int .i64 8]) ∧ Below w.heap.size w w') ∧
    (Calls Tryz.prog 23 #[.agg #[.bool s, .slice A l.length c], .agg #[.bool t, .slice B k.length d]] w fun e w' => e = .returned (.tuple #[.agg #[.bool false, .slice none 0 0], .int .i64 8]) ∧ Below w.heap.size w w') := by
  have ia : IsI w Z1 (.agg #[.bool s, .slice A l.length c]) s l := ⟨_, rfl, A, c, rfl, u1⟩
  have ib : IsI w Z2 (.agg #[.bool t, .slice B k.length d]) t k := ⟨_, rfl, B, d, rfl, u2⟩
  have hq : ∀ w1, Below w.heap.size w w1 → Calls Tryz.prog 105 #[.agg #[.bool s, .slice A l.length c], .agg #[.bool t, .slice B k.length d]] w1 (fun e w' => (∃ Av cv L, e = .returned (.tuple #[.agg #[.bool false, .slice Av 0 cv], .bool false, .bool L, .int .i64 8])) ∧ Below w1.heap.size w1 w') := fun w1 hb => (wquot_bad (IsI.below ia hb) (IsI.below ib hb) h).mono fun e w' ⟨h1, h2⟩ => ⟨⟨_, _, _, h1⟩, h2⟩
  exact ⟨wfloor_err ia ib (.inl rfl) hq, wceil_err ia ib (.inl rfl) hq⟩

theorem round_zero {w : World} {Z1 Z2 : Zone} {s : Bool} {l : List Nat} {A B : Option Addr} {c d : Nat} (h : okI s l = true) (hl : l.length ≤ 10000000000) (u1 : U64s w Z1 A c l) (u2 : U64s w Z2 B d []) :
    (Calls Tryz.prog 20 #[.agg #[.bool s, .slice A l.length c], .agg #[.bool false, .slice B 0 d]] w fun e w' => e = .returned (.tuple #[.agg #[.bool false, .slice none 0 0], .int .i64 30]) ∧ Below w.heap.size w w') ∧
    (Calls Tryz.prog 23 #[.agg #[.bool s, .slice A l.length c], .agg #[.bool false, .slice B 0 d]] w fun e w' => e = .returned (.tuple #[.agg #[.bool false, .slice none 0 0], .int .i64 30]) ∧ Below w.heap.size w w') := by
  have ia : IsI w Z1 (.agg #[.bool s, .slice A l.length c]) s l := ⟨_, rfl, A, c, rfl, u1⟩
  have ib : IsI w Z2 (.agg #[.bool false, .slice B 0 d]) false [] := ⟨_, rfl, B, d, rfl, u2⟩
  have hg : good l = true := by unfold okI at h; rw [Bool.and_eq_true] at h; exact h.1
  have hE : errD l [] = 30 := by unfold errD; rw [if_pos ⟨hg, rfl⟩]; rfl
  have hq : ∀ w1, Below w.heap.size w w1 → Calls Tryz.prog 105 #[.agg #[.bool s, .slice A l.length c], .agg #[.bool false, .slice B 0 d]] w1 (fun e w' => (∃ Av cv L, e = .returned (.tuple #[.agg #[.bool false, .slice Av 0 cv], .bool false, .bool L, .int .i64 30])) ∧ Below w1.heap.size w1 w') := fun w1 hb => (wquot_zero (IsI.below ia hb) (IsI.below ib hb) h rfl hE hl).mono fun e w' ⟨Av, cv, h1, _, h2⟩ => ⟨⟨_, _, _, h1⟩, h2⟩
  exact ⟨wfloor_err ia ib (.inr rfl) hq, wceil_err ia ib (.inr rfl) hq⟩

end Go.Proofs.YtamenhffplhddaaGreat

namespace Go.Proofs.YtamenhffplhddaaGreat
open Go.RowKit
set_option linter.unusedVariables false
set_option linter.unusedSimpArgs false

theorem rq_val {x y : Int} {d : Bool} (hr : x.natAbs % y.natAbs ≠ 0) : rq x y d = if (x < 0 ↔ y < 0) then ((x.natAbs / y.natAbs : Nat) : Int) + (if d = true then 0 else 1) else -((x.natAbs / y.natAbs : Nat) : Int) - (if d = true then 1 else 0) := by
  have hz : decide (0 < (limbs (x.natAbs % y.natAbs)).length) = true := decide_eq_true (by rw [len_pos]; omega)
  unfold rq tq
  rw [hz]
  generalize ((x.natAbs / y.natAbs : Nat) : Int) = q
  by_cases hx : x < 0 <;> by_cases hy : y < 0 <;> cases d <;> simp [hx, hy] <;> omega

/-- Quotients rounded: the plain law. -/
theorem rounds_plain {x y : Int} (hy : y ≠ 0) :
    (x.natAbs % y.natAbs = 0 ∧ x - rq x y true * y = 0 ∧ rq x y false = rq x y true ∧ -(rq (-x) y true) = rq x y true ∧ tq x y = rq x y true) ∨
    (x.natAbs % y.natAbs ≠ 0 ∧ sgn (x - rq x y true * y) = sgn y ∧ rq x y false = rq x y true + 1 ∧ -(rq (-x) y true) = rq x y true + 1 ∧ (x - rq x y true * y).natAbs < y.natAbs) := by
  have hn : 0 < y.natAbs := by omega
  have h1 := Nat.div_add_mod x.natAbs y.natAbs
  have h2 := Nat.mod_lt x.natAbs hn
  have h3 : (-x).natAbs = x.natAbs := Int.natAbs_neg x
  by_cases hr : x.natAbs % y.natAbs = 0
  · left
    unfold rq tq
    rw [h3]
    rw [hr] at h1 ⊢
    have hz : decide (0 < (limbs 0).length) = false := decide_eq_false (by rw [len_pos]; omega)
    rw [hz]
    simp only [Bool.false_and, Bool.false_eq_true, if_false]
    generalize x.natAbs / y.natAbs = q at *
    have h4 : ((y.natAbs * q + 0 : Nat) : Int) = (x.natAbs : Int) := by rw [h1]
    rw [Int.natCast_add, Int.natCast_mul] at h4
    by_cases hx : x < 0
    · have e1 : (x.natAbs : Int) = -x := by omega
      have hx2 : ¬ (-x < 0) := by omega
      by_cases hy2 : y < 0
      · have e2 : (y.natAbs : Int) = -y := by omega
        rw [e1, e2] at h4
        simp only [hx, hx2, hy2, decide_true, decide_false, if_true, if_false]
        refine ⟨by trivial, ?_, by trivial, ?_, by trivial⟩
        · rw [Int.neg_mul] at h4; rw [Int.mul_comm]; omega
        · rw [if_neg (by decide)]; omega
      · have e2 : (y.natAbs : Int) = y := by omega
        rw [e1, e2] at h4
        simp only [hx, hx2, hy2, decide_true, decide_false, if_true, if_false]
        refine ⟨by trivial, ?_, by trivial, ?_, by trivial⟩
        · rw [if_neg (by decide), Int.neg_mul, Int.mul_comm]; omega
        · rw [if_neg (by decide)]
    · by_cases hx0 : x = 0
      · subst hx0
        have hq : q = 0 := by
          rcases Nat.mul_eq_zero.1 (show y.natAbs * q = 0 by simpa using h1) with h | h
          · omega
          · exact h
        subst hq
        simp
      · have e1 : (x.natAbs : Int) = x := by omega
        have hx2 : -x < 0 := by omega
        by_cases hy2 : y < 0
        · have e2 : (y.natAbs : Int) = -y := by omega
          rw [e1, e2] at h4
          simp only [hx, hx2, hy2, decide_true, decide_false, if_true, if_false]
          refine ⟨by trivial, ?_, by trivial, ?_, by trivial⟩
          · rw [if_neg (by decide), Int.neg_mul, Int.mul_comm]; rw [Int.neg_mul] at h4; omega
          · rw [if_neg (by decide)]
        · have e2 : (y.natAbs : Int) = y := by omega
          rw [e1, e2] at h4
          simp only [hx, hx2, hy2, decide_true, decide_false, if_true, if_false]
          refine ⟨by trivial, ?_, by trivial, ?_, by trivial⟩
          · rw [Int.mul_comm]; omega
          · rw [if_neg (by decide)]; omega
  · right
    have hx0 : x ≠ 0 := by
      intro h
      subst h
      exact hr (by simp)
    have hr3 : (-x).natAbs % y.natAbs ≠ 0 := by rw [h3]; exact hr
    rw [rq_val hr, rq_val hr, rq_val hr3, h3]
    refine ⟨hr, ?_⟩
    generalize x.natAbs / y.natAbs = q at *
    generalize x.natAbs % y.natAbs = r at *
    have h4 : ((y.natAbs * q + r : Nat) : Int) = (x.natAbs : Int) := by rw [h1]
    rw [Int.natCast_add, Int.natCast_mul] at h4
    have sp : ∀ z : Int, 0 < z → sgn z = 1 := fun z hz => by unfold sgn; rw [if_neg (by omega), if_neg (by omega)]
    have sn : ∀ z : Int, z < 0 → sgn z = -1 := fun z hz => by unfold sgn; rw [if_neg (by omega), if_pos hz]
    simp only [if_true, Bool.false_eq_true, if_false]
    have k2 : (q : Int) * y = y * q := Int.mul_comm _ _
    have k4 : ((q : Int) + 0) * y = y * q := by rw [Int.add_zero]; exact k2
    have k3 : (-(q : Int) - 1) * y = -(y * q) - y := by rw [Int.sub_mul, Int.neg_mul, k2]; omega
    by_cases hx : x < 0
    · have e1 : (x.natAbs : Int) = -x := by omega
      by_cases hy2 : y < 0
      · have e2 : (y.natAbs : Int) = -y := by omega
        rw [e1, e2, Int.neg_mul] at h4
        rw [if_pos (show (x < 0 ↔ y < 0) by omega), if_pos (show (x < 0 ↔ y < 0) by omega), if_neg (show ¬ (-x < 0 ↔ y < 0) by omega), k4]
        refine ⟨?_, by omega, by omega, by omega⟩
        rw [sn y hy2, sn _ (by omega)]
      · have e2 : (y.natAbs : Int) = y := by omega
        rw [e1, e2] at h4
        rw [if_neg (show ¬ (x < 0 ↔ y < 0) by omega), if_neg (show ¬ (x < 0 ↔ y < 0) by omega), if_pos (show (-x < 0 ↔ y < 0) by omega), k3]
        refine ⟨?_, by omega, by omega, by omega⟩
        rw [sp y (by omega), sp _ (by omega)]
    · have e1 : (x.natAbs : Int) = x := by omega
      by_cases hy2 : y < 0
      · have e2 : (y.natAbs : Int) = -y := by omega
        rw [e1, e2, Int.neg_mul] at h4
        rw [if_neg (show ¬ (x < 0 ↔ y < 0) by omega), if_neg (show ¬ (x < 0 ↔ y < 0) by omega), if_pos (show (-x < 0 ↔ y < 0) by omega), k3]
        refine ⟨?_, by omega, by omega, by omega⟩
        rw [sn y hy2, sn _ (by omega)]
      · have e2 : (y.natAbs : Int) = y := by omega
        rw [e1, e2] at h4
        rw [if_pos (show (x < 0 ↔ y < 0) by omega), if_pos (show (x < 0 ↔ y < 0) by omega), if_neg (show ¬ (-x < 0 ↔ y < 0) by omega), k4]
        refine ⟨?_, by omega, by omega, by omega⟩
        rw [sp y (by omega), sp _ (by omega)]

theorem floor_n {w : World} {Z1 Z2 : Zone} {x y z : Int} {s t r : Bool} {l k m : List Nat} {A B : Option Addr} {c d : Nat} (h1 : Nm x s l) (h2 : Nm y t k) (h3 : Nm z r m) (hz : rq x y true = z) (hy : y ≠ 0) (hl : l.length ≤ 10000000000) (u1 : U64s w Z1 A c l) (u2 : U64s w Z2 B d k) :
    Calls Tryz.prog 20 #[.agg #[.bool s, .slice A l.length c], .agg #[.bool t, .slice B k.length d]] w fun e w' => ∃ Av cv, e = .returned (.tuple #[.agg #[.bool r, .slice Av m.length cv], .int .i64 0]) ∧ U64s w' (new w.heap.size) Av cv m ∧ Below w.heap.size w w' := by
  refine (wfloor_z (h1.isZ u1) (h2.isZ u2) hy (by rw [← h1.len]; exact hl)).mono ?_
  rintro e w' ⟨v, rfl, hv, hb⟩
  rw [hz] at hv
  obtain ⟨Av, cv, rfl, hu⟩ := h3.of hv
  exact ⟨Av, cv, rfl, hu, hb⟩

theorem ceil_n {w : World} {Z1 Z2 : Zone} {x y z : Int} {s t r : Bool} {l k m : List Nat} {A B : Option Addr} {c d : Nat} (h1 : Nm x s l) (h2 : Nm y t k) (h3 : Nm z r m) (hz : rq x y false = z) (hy : y ≠ 0) (hl : l.length ≤ 10000000000) (u1 : U64s w Z1 A c l) (u2 : U64s w Z2 B d k) :
    Calls Tryz.prog 23 #[.agg #[.bool s, .slice A l.length c], .agg #[.bool t, .slice B k.length d]] w fun e w' => ∃ Av cv, e = .returned (.tuple #[.agg #[.bool r, .slice Av m.length cv], .int .i64 0]) ∧ U64s w' (new w.heap.size) Av cv m ∧ Below w.heap.size w w' := by
  refine (wceil_z (h1.isZ u1) (h2.isZ u2) hy (by rw [← h1.len]; exact hl)).mono ?_
  rintro e w' ⟨v, rfl, hv, hb⟩
  rw [hz] at hv
  obtain ⟨Av, cv, rfl, hu⟩ := h3.of hv
  exact ⟨Av, cv, rfl, hu, hb⟩

theorem int_n {w : World} {Z1 : Zone} {x : Int} {s : Bool} {l : List Nat} {A : Option Addr} {c : Nat} (h1 : Nm x s l) (hx : -9223372036854775808 ≤ x ∧ x ≤ 9223372036854775807) (u1 : U64s w Z1 A c l) :
    Calls Tryz.prog 60 #[.agg #[.bool s, .slice A l.length c]] w fun e w' => e = .returned (.tuple #[.int .i64 x, .int .i64 0]) ∧ Below w.heap.size w w' := wint_z (h1.isZ u1) hx

theorem Nm.abs {x : Int} {s : Bool} {l : List Nat} (h : Nm x s l) : Nm (x.natAbs : Int) false l := by
  refine ⟨(decide_eq_false (by omega)).symm, ?_⟩
  rw [h.2, Int.natAbs_natCast]

theorem sgn_below {x y : Int} (h : x.natAbs < y.natAbs) : sgn ((x.natAbs : Int) - (y.natAbs : Int)) = -1 := by
  unfold sgn
  rw [if_neg (by omega), if_pos (by omega)]

theorem len_rq (x y : Int) (d : Bool) : (limbs (rq x y d).natAbs).length ≤ (limbs x.natAbs).length + 1 := by
  have h : (rq x y d).natAbs ≤ x.natAbs + 1 := by
    have h1 : (tq x y).natAbs ≤ x.natAbs := by
      have h2 := Nat.div_le_self x.natAbs y.natAbs
      unfold tq
      generalize x.natAbs / y.natAbs = q at *
      split <;> omega
    unfold rq
    split
    · split <;> omega
    · omega
  have h2 := len_add x.natAbs 1
  have h3 : (limbs 1).length = 1 := by rw [limbs_one (by omega) (by omega)]; rfl
  by_cases h0 : x.natAbs = 0
  · rw [h0] at h ⊢
    exact Nat.le_trans (len_mono h) (by rw [Nat.zero_add, h3]; omega)
  · have := (len_pos (m := x.natAbs)).2 (by omega)
    exact Nat.le_trans (Nat.le_trans (len_mono h) h2) (by omega)

end Go.Proofs.YtamenhffplhddaaGreat
