/-
  Rows of whole numbers at any words: what a row is in memory, vec.Check, vec.checked of one and two rows. No conditions but bounds on lengths.
  Lists of rows of whole numbers in memory. No conditions.
  Lists of rows: rows.Check, at any words; and vec.May of the document. No conditions.
  Lists of rows: the document's May of a row, and its Check of a list, at any words. No conditions.
  Rows of whole numbers: vec.checked at any words; vec.sum and vec.product of numbers. No conditions but bounds on lengths.
  Rows of whole numbers: vec.each of the closures of Add, Scale and Mix. No conditions but bounds on lengths.
  Rows of whole numbers: the closures of vec.Add, Scale and Mix. No conditions but bounds on lengths.
  Rows of whole numbers by name; vec.Dot. No conditions but bounds on lengths.
  Rows of whole numbers: vec.Add, Scale and Mix. No conditions but bounds on lengths.
  Rows of whole numbers: the document's Great and Same at any words; rows of ints as rows of numbers. No conditions but bounds on lengths.
  The chapter's first examples of rows. No conditions.
  Rows of whole numbers: which is ahead: the plain laws. No conditions.
  Rows of whole numbers: vec.Zero, vec.Same, vec.Cmp. No conditions but bounds on lengths.
-/
import Derived.Deep.RegionHeld3
import Derived.Deep.QuietTactic
import Derived.BigQuiet
import Derived.Test.YtajmijnoikkffaaGreatNWhO
import Derived.Test.YtajmijnoikkffaaGreatNWhJ
import Derived.Test.YtajmijnoikkffaaGreatNVecC
namespace Go.Proofs.YtajmijnoikkffaaGreat
open Go.RowKit
set_option linter.unusedVariables false
set_option linter.unusedSimpArgs false

/-- A row of signs and words in memory. -/
structure VecAt (w : World) (Z : Zone) (A : Option Addr) (c : Nat) (ps : List (Bool × List Nat)) : Prop where
  cap : ps.length ≤ c
  max : c ≤ 9223372036854775807
  row : 0 < ps.length → ∃ b o, A = some ⟨b, o, none⟩ ∧ Z.blk b ∧ b < w.heap.size ∧ (Z.soft → ∀ j, w.frozen? ⟨b, o + j, none⟩ = false) ∧
    ∀ j (hj : j < ps.length), ∃ B d, w.cell? ⟨b, o + j * 2, none⟩ = some (.bool ps[j].1) ∧ w.cell? ⟨b, o + j * 2 + 1, none⟩ = some (.slice B ps[j].2.length d) ∧ U64s w Z B d ps[j].2

def IsVec (w : World) (Z : Zone) (v : Value) (ps : List (Bool × List Nat)) : Prop := ∃ A c, v = .slice A ps.length c ∧ VecAt w Z A c ps

theorem VecAt.nil (w : World) (Z : Zone) : VecAt w Z none 0 [] := ⟨by simp, by omega, fun h => absurd h (by simp)⟩
theorem VecAt.below {w w' : World} {Z : Zone} {A : Option Addr} {c : Nat} {ps : List (Bool × List Nat)} (h : VecAt w Z A c ps) (hb : Below w.heap.size w w') : VecAt w' Z A c ps := by
  refine ⟨h.cap, h.max, fun h0 => ?_⟩
  obtain ⟨b, o, e, h1, h2, h3, h4⟩ := h.row h0
  refine ⟨b, o, e, h1, Nat.lt_of_lt_of_le h2 hb.size, fun hs j => ((bcell hb).2 b (o + j) h2).trans (h3 hs j), fun j hj => ?_⟩
  obtain ⟨B, d, c0, c1, hu⟩ := h4 j hj
  exact ⟨B, d, keepC hb c0, keepC hb c1, hu.below hb⟩
theorem VecAt.mono {w : World} {Z Y : Zone} {A : Option Addr} {c : Nat} {ps : List (Bool × List Nat)} (h : VecAt w Z A c ps) (hz : Z.le Y) : VecAt w Y A c ps := by
  refine ⟨h.cap, h.max, fun h0 => ?_⟩
  obtain ⟨b, o, e, h1, h2, h3, h4⟩ := h.row h0
  refine ⟨b, o, e, hz.1 b h1, h2, fun hs => h3 (hz.2 hs), fun j hj => ?_⟩
  obtain ⟨B, d, c0, c1, hu⟩ := h4 j hj
  exact ⟨B, d, c0, c1, hu.mono hz⟩
theorem VecAt.keep {w w' : World} {Z : Zone} {A : Option Addr} {c : Nat} {ps : List (Bool × List Nat)} (h : VecAt w Z A c ps) (hs : w.heap.size ≤ w'.heap.size) (hk : ∀ b, Z.blk b → b < w.heap.size → w'.heap[b]? = w.heap[b]?) : VecAt w' Z A c ps := by
  refine ⟨h.cap, h.max, fun h0 => ?_⟩
  obtain ⟨b, o, e, h1, h2, h3, h4⟩ := h.row h0
  have hb := hk b h1 h2
  refine ⟨b, o, e, h1, by omega, fun hs j => (World.frozen?_of_block (a := ⟨b, o + j, none⟩) hb).trans (h3 hs j), fun j hj => ?_⟩
  obtain ⟨B, d, c0, c1, hu⟩ := h4 j hj
  exact ⟨B, d, (World.cell?_of_block (a := ⟨b, o + j * 2, none⟩) hb).trans c0, (World.cell?_of_block (a := ⟨b, o + j * 2 + 1, none⟩) hb).trans c1, hu.keep hk⟩
theorem VecAt.len {w : World} {Z : Zone} {A : Option Addr} {c : Nat} {ps : List (Bool × List Nat)} (h : VecAt w Z A c ps) : ps.length ≤ 9223372036854775807 := Nat.le_trans h.cap h.max
theorem VecAt.small {w : World} {Z : Zone} {A : Option Addr} {c : Nat} {ps : List (Bool × List Nat)} (h : VecAt w Z A c ps) : ∀ p ∈ ps, Small p.2 := fun p hp => by
  obtain ⟨j, hj, rfl⟩ := List.getElem_of_mem hp
  obtain ⟨b, o, _, _, _, _, h4⟩ := h.row (by omega)
  obtain ⟨B, d, _, _, hu⟩ := h4 j hj
  exact hu.small
/-- The place of the j-th number, and it. -/
theorem VecAt.at {w : World} {Z : Zone} {A : Option Addr} {c : Nat} {ps : List (Bool × List Nat)} (h : VecAt w Z A c ps) {j : Nat} (hj : j < ps.length) :
    ∃ b o B d, A = some ⟨b, o, none⟩ ∧ b < w.heap.size ∧ w.cell? ⟨b, o + j * 2, none⟩ = some (.bool ps[j].1) ∧ w.cell? ⟨b, o + j * 2 + 1, none⟩ = some (.slice B ps[j].2.length d) ∧ U64s w Z B d ps[j].2 := by
  obtain ⟨b, o, e, _, h2, _, h4⟩ := h.row (by omega)
  obtain ⟨B, d, c0, c1, hu⟩ := h4 j hj
  exact ⟨b, o, B, d, e, h2, c0, c1, hu⟩

def okV (ps : List (Bool × List Nat)) : Bool := decide (ps.length ≤ 64) && ps.all fun p => okI p.1 p.2
def errV (ps : List (Bool × List Nat)) : Int := if okV ps = true then 0 else 8

set_option maxRecDepth 100000 in
set_option maxHeartbeats 1000000 in
theorem vcheck1_any {w : World} {Z : Zone} {s : Bool} {l : List Nat} {A : Option Addr} {c : Nat} (hu : U64s w Z A c l) :
    Calls Tryz.prog 47 #[.agg #[.bool s, .slice A l.length c]] w fun e w' => e = .returned (.bool (!okI s l)) ∧ Below w.heap.size w w' := by
  have hal : Below w.heap.size w (w.alloc (.cells #[.bool s, .slice A l.length c] 42)) := (Below.refl _ _).alloc (Nat.le_refl _) _
  obtain ⟨x0, x1, _, _, _⟩ := Box.new w (.bool s) (.slice A l.length c) 42
  have hck := wcheck_any (a := .agg #[.bool s, .slice A l.length c]) ⟨_, rfl, A, c, rfl, hu.below hal⟩
  have hE : errC s l = if okI s l = true then 0 else 8 := rfl
  rw [hE] at hck
  have Hal := Lib.hid hal
  cases hok : okI s l
  all_goals
    rw [hok] at hck
    simp only [Bool.false_eq_true, if_true, if_false] at hck
    have Hck := Lib.hid hck
    clear hck hE hok hu hal
    generalize l.length = L at *
    go_enter Tryz.func47, Tryz.ntmps47
    go_wp2_with fail
    refine Hck.out.mono ?_
    rintro e w1 ⟨rfl, hb1⟩
    go_wp2
    go_ret
    exact ⟨rfl, from_ Hal.out hb1⟩

set_option maxRecDepth 100000 in
set_option maxHeartbeats 1000000 in
theorem vindex_check {w : World} {Z : Zone} {A : Option Addr} {c : Nat} {ps : List (Bool × List Nat)} (ha : VecAt w Z A c ps) (hl : ps.length ≤ 1000000000000) :
    Calls Tryz.prog 52 #[.slice A ps.length c, .func (.func 47) #[] #[]] w fun e w' => (∃ r, e = .returned (.int .i64 r) ∧ decide (0 ≤ r) = !(ps.all fun p => okI p.1 p.2)) ∧ Below w.heap.size w w' := by
  go_enter Tryz.func52, Tryz.ntmps52
  go_wp2
  go_loopw [8] (fun i wr => ∃ k : Nat, k ≤ ps.length ∧ i = .int .i64 k ∧ Below w.heap.size w wr ∧ Hid (∀ j (hj : j < ps.length), j < k → okI ps[j].1 ps[j].2 = true)) (fun i _ => ps.length - (intOf i).toNat)
  case atStart => exact ⟨0, Nat.zero_le _, rfl, Below.refl _ _, fun j hj h => absurd h (by omega)⟩
  case round =>
    obtain ⟨k, hk, rfl, hbel, hz⟩ := hrel
    by_cases hlt : k < ps.length
    · obtain ⟨b, o, B, d, rfl, hbb, c0, c1, hu⟩ := (ha.below hbel).at hlt
      have hck := vcheck1_any (s := ps[k].1) hu
      have hok : okI ps[k].1 ps[k].2 = true ∨ okI ps[k].1 ps[k].2 = false := by cases okI ps[k].1 ps[k].2 <;> simp
      have Hall : Hid (okI ps[k].1 ps[k].2 = true → ∀ j (hj : j < ps.length), j < k + 1 → okI ps[j].1 ps[j].2 = true) := fun hx j hj hjk => by
        rcases Nat.lt_or_ge j k with h1 | h1
        · exact hz.out j hj h1
        · obtain rfl : j = k := by omega
          exact hx
      have Hnone : Hid (okI ps[k].1 ps[k].2 = false → (ps.all fun p => okI p.1 p.2) = false) := fun hx => by
        cases hall : ps.all (fun p => okI p.1 p.2)
        · rfl
        · have := List.all_eq_true.1 hall ps[k] (List.getElem_mem hlt)
          rw [this] at hx
          cases hx
      clear hu hz
      generalize ps[k].1 = s at *
      generalize ps[k].2 = l at *
      rcases hok with hok | hok
      all_goals
        rw [hok] at hck
        have Hck := Lib.hid hck
        have Hok := Lib.hid hok
        clear hck hok
        go_wp2_with fail
        refine Hck.out.mono ?_
        rintro e w1 ⟨rfl, hb2⟩
        have hb3 := from_ hbel hb2
        go_wp2
      · go_roundw
        case rel => exact ⟨k + 1, by omega, by go_num, hb3, Lib.hid (Hall.out Hok.out)⟩
        case measure => simp [intOf]; omega
      · go_ret
        exact ⟨⟨_, rfl, by rw [Hnone.out Hok.out]; exact decide_eq_true (by omega)⟩, hb3⟩
    · obtain rfl : k = ps.length := by omega
      have he : (ps.all fun p => okI p.1 p.2) = true := by
        rw [List.all_eq_true]
        intro p hp
        obtain ⟨j, hj, rfl⟩ := List.getElem_of_mem hp
        exact hz.out j hj hj
      have He := Lib.hid he
      clear he hz
      go_wp2
      go_ret
      exact ⟨⟨_, rfl, by rw [He.out]; rfl⟩, hbel⟩

set_option maxRecDepth 100000 in
set_option maxHeartbeats 1000000 in
theorem vcontains_check {w : World} {Z : Zone} {A : Option Addr} {c : Nat} {ps : List (Bool × List Nat)} (ha : VecAt w Z A c ps) (hl : ps.length ≤ 1000000000000) :
    Calls Tryz.prog 35 #[.slice A ps.length c, .func (.func 47) #[] #[]] w fun e w' => e = .returned (.bool (!(ps.all fun p => okI p.1 p.2))) ∧ Below w.heap.size w w' := by
  have hix := vindex_check ha hl
  have Hix := Lib.hid hix
  clear hix ha
  generalize ps.length = L at *
  generalize (ps.all fun p => okI p.1 p.2) = R at *
  go_enter Tryz.func35, Tryz.ntmps35
  go_wp2_with fail
  refine Hix.out.mono ?_
  rintro e w1 ⟨⟨r, rfl, hr⟩, hb1⟩
  go_wp2
  go_ret
  exact ⟨rfl, hb1⟩

set_option maxRecDepth 100000 in
set_option maxHeartbeats 1000000 in
theorem vcheck_any {w : World} {Z : Zone} {A : Option Addr} {c : Nat} {ps : List (Bool × List Nat)} (ha : VecAt w Z A c ps) :
    Calls Tryz.prog 29 #[.slice A ps.length c] w fun e w' => e = .returned (.int .i64 (errV ps)) ∧ Below w.heap.size w w' := by
  by_cases hl : ps.length ≤ 64
  · have hct := vcontains_check ha (by omega)
    have hd : decide ((64 : Int) < (ps.length : Int)) = false := decide_eq_false (by omega)
    have he : errV ps = if (ps.all fun p => okI p.1 p.2) = true then 0 else 8 := by
      unfold errV okV
      rw [decide_eq_true hl, Bool.true_and]
    rw [he]
    clear ha he
    cases hR : (ps.all fun p => okI p.1 p.2)
    all_goals
      rw [hR] at hct
      have Hct := Lib.hid hct
      clear hct hR hl
      simp only [Bool.false_eq_true, if_true, if_false]
      generalize ps.length = L at *
      go_enter Tryz.func29, Tryz.ntmps29
      go_wp2_with fail
      refine Hct.out.mono ?_
      rintro e w1 ⟨rfl, hb1⟩
      go_wp2
      go_ret
      exact ⟨rfl, hb1⟩
  · have hd : decide ((64 : Int) < (ps.length : Int)) = true := decide_eq_true (by omega)
    have he : errV ps = 8 := by
      unfold errV okV
      rw [decide_eq_false hl, Bool.false_and]
      rfl
    rw [he]
    clear ha he hl
    generalize ps.length = L at *
    go_enter Tryz.func29, Tryz.ntmps29
    go_wp2
    go_ret
    exact ⟨rfl, Below.refl _ _⟩

end Go.Proofs.YtajmijnoikkffaaGreat

namespace Go.Proofs.YtajmijnoikkffaaGreat
open Go.RowKit
set_option linter.unusedVariables false
set_option linter.unusedSimpArgs false

abbrev Vecs := List (List (Bool × List Nat))

/-- Rows of rows in memory. -/
structure MatAt (w : World) (Z : Zone) (A : Option Addr) (c : Nat) (pss : Vecs) : Prop where
  cap : pss.length ≤ c
  max : c ≤ 9223372036854775807
  row : 0 < pss.length → ∃ b o, A = some ⟨b, o, none⟩ ∧ b < w.heap.size ∧
    ∀ j (hj : j < pss.length), ∃ B d, w.cell? ⟨b, o + j, none⟩ = some (.slice B pss[j].length d) ∧ VecAt w Z B d pss[j]

def IsMat (w : World) (Z : Zone) (v : Value) (pss : Vecs) : Prop := ∃ A c, v = .slice A pss.length c ∧ MatAt w Z A c pss

theorem MatAt.nil (w : World) (Z : Zone) : MatAt w Z none 0 [] := ⟨by simp, by omega, fun h => absurd h (by simp)⟩
theorem MatAt.below {w w' : World} {Z : Zone} {A : Option Addr} {c : Nat} {pss : Vecs} (h : MatAt w Z A c pss) (hb : Below w.heap.size w w') : MatAt w' Z A c pss := by
  refine ⟨h.cap, h.max, fun h0 => ?_⟩
  obtain ⟨b, o, e, h2, h4⟩ := h.row h0
  refine ⟨b, o, e, Nat.lt_of_lt_of_le h2 hb.size, fun j hj => ?_⟩
  obtain ⟨B, d, c0, hu⟩ := h4 j hj
  exact ⟨B, d, keepC hb c0, hu.below hb⟩
theorem MatAt.mono {w : World} {Z Y : Zone} {A : Option Addr} {c : Nat} {pss : Vecs} (h : MatAt w Z A c pss) (hz : Z.le Y) : MatAt w Y A c pss := by
  refine ⟨h.cap, h.max, fun h0 => ?_⟩
  obtain ⟨b, o, e, h2, h4⟩ := h.row h0
  refine ⟨b, o, e, h2, fun j hj => ?_⟩
  obtain ⟨B, d, c0, hu⟩ := h4 j hj
  exact ⟨B, d, c0, hu.mono hz⟩
theorem MatAt.len {w : World} {Z : Zone} {A : Option Addr} {c : Nat} {pss : Vecs} (h : MatAt w Z A c pss) : pss.length ≤ 9223372036854775807 := Nat.le_trans h.cap h.max
/-- The place of the j-th row, and it. -/
theorem MatAt.at {w : World} {Z : Zone} {A : Option Addr} {c : Nat} {pss : Vecs} (h : MatAt w Z A c pss) {j : Nat} (hj : j < pss.length) :
    ∃ b o B d, A = some ⟨b, o, none⟩ ∧ b < w.heap.size ∧ w.cell? ⟨b, o + j, none⟩ = some (.slice B pss[j].length d) ∧ VecAt w Z B d pss[j] := by
  obtain ⟨b, o, e, h2, h4⟩ := h.row (by omega)
  obtain ⟨B, d, c0, hu⟩ := h4 j hj
  exact ⟨b, o, B, d, e, h2, c0, hu⟩
theorem IsMat.below {w w' : World} {Z : Zone} {v : Value} {pss : Vecs} (h : IsMat w Z v pss) (hb : Below w.heap.size w w') : IsMat w' Z v pss := by
  obtain ⟨A, c, e, h⟩ := h
  exact ⟨A, c, e, h.below hb⟩

/-- Whether all rows may be, and none is empty. -/
def okR (pss : Vecs) : Bool := pss.all fun ps => okV ps && decide (0 < ps.length)
def evenR (pss : Vecs) : Bool := pss.all fun ps => decide (ps.length = (pss.headD []).length)
/-- The error of a list of rows. -/
def errR (pss : Vecs) : Int := if pss.length ≤ 1024 then (if okR pss = true then (if evenR pss = true then 0 else 70) else 8) else 4
theorem errR_vals (pss : Vecs) : errR pss = 0 ∨ errR pss = 4 ∨ errR pss = 8 ∨ errR pss = 70 := by
  unfold errR
  split <;> (try split) <;> (try split) <;> simp
theorem errR_zero {pss : Vecs} (h : errR pss = 0) : pss.length ≤ 1024 ∧ (∀ ps ∈ pss, okV ps = true ∧ 0 < ps.length ∧ ps.length = (pss.headD []).length) := by
  unfold errR at h
  split at h
  · rename_i h1
    split at h
    · rename_i h2
      split at h
      · rename_i h3
        refine ⟨h1, fun ps hp => ?_⟩
        have a := List.all_eq_true.1 h2 ps hp
        have b := List.all_eq_true.1 h3 ps hp
        rw [Bool.and_eq_true] at a
        exact ⟨a.1, of_decide_eq_true a.2, of_decide_eq_true b⟩
      · cases h
    · cases h
  · cases h
theorem headD_zero {pss : Vecs} (h : 0 < pss.length) : pss.headD [] = pss[0] := by
  cases pss with
  | nil => simp at h
  | cons p t => rfl

end Go.Proofs.YtajmijnoikkffaaGreat

namespace Go.Proofs.YtajmijnoikkffaaGreat
open Go.RowKit
set_option linter.unusedVariables false
set_option linter.unusedSimpArgs false

/-- Whether a row may be, and is not empty. -/
def okR1 (ps : List (Bool × List Nat)) : Bool := okV ps && decide (0 < ps.length)
theorem okR_iff {pss : Vecs} : okR pss = true ↔ ∀ j (hj : j < pss.length), okR1 pss[j] = true := by
  unfold okR
  rw [List.all_eq_true]
  constructor
  · exact fun h j hj => h _ (List.getElem_mem hj)
  · intro h p hp
    obtain ⟨j, hj, rfl⟩ := List.getElem_of_mem hp
    exact h j hj
theorem errR_bad {pss : Vecs} (h1 : pss.length ≤ 1024) {j : Nat} (hj : j < pss.length) (h : okR1 pss[j] = false) : errR pss = 8 := by
  unfold errR
  rw [if_pos h1, if_neg]
  intro h2
  rw [okR_iff.1 h2 j hj] at h
  cases h
theorem errR_odd {pss : Vecs} (h1 : pss.length ≤ 1024) (h2 : okR pss = true) {j : Nat} (hj : j < pss.length) (h0 : 0 < pss.length) (h : pss[j].length ≠ pss[0].length) : errR pss = 70 := by
  unfold errR
  rw [if_pos h1, if_pos h2, if_neg]
  intro h3
  have := List.all_eq_true.1 h3 pss[j] (List.getElem_mem hj)
  rw [headD_zero h0] at this
  exact h (of_decide_eq_true this)
theorem errR_good {pss : Vecs} (h1 : pss.length ≤ 1024) (h2 : okR pss = true) (h : ∀ j (hj : j < pss.length) (h0 : 0 < pss.length), pss[j].length = pss[0].length) : errR pss = 0 := by
  unfold errR
  rw [if_pos h1, if_pos h2, if_pos]
  unfold evenR
  rw [List.all_eq_true]
  intro p hp
  obtain ⟨j, hj, rfl⟩ := List.getElem_of_mem hp
  rw [headD_zero (show 0 < pss.length by omega)]
  exact decide_eq_true (h j hj (by omega))
theorem errR_many {pss : Vecs} (h1 : ¬ pss.length ≤ 1024) : errR pss = 4 := by
  unfold errR
  rw [if_neg h1]

set_option maxRecDepth 100000 in
set_option maxHeartbeats 2000000 in
theorem rowscheck_any {w : World} {Z : Zone} {A : Option Addr} {c : Nat} {pss : Vecs} (h : MatAt w Z A c pss) :
    Calls Tryz.prog 13 #[.slice A pss.length c] w fun e w' => e = .returned (.int .i64 (errR pss)) ∧ Below w.heap.size w w' := by
  have hlen := h.len
  by_cases h0 : pss.length ≤ 1024
  · have m0 : decide ((1024 : Int) < (pss.length : Int)) = false := decide_eq_false (by omega)
    go_enter Tryz.func13, Tryz.ntmps13
    go_wp2
    go_loopw [12] (fun i wr => ∃ k : Nat, k ≤ pss.length ∧ i = .int .i64 (k : Int) ∧ Below w.heap.size w wr ∧ Hid (∀ j (hj : j < pss.length), j < k → okR1 pss[j] = true)) (fun i _ => pss.length - (intOf i).toNat)
    case atStart => exact ⟨0, Nat.zero_le _, rfl, Below.refl _ _, fun j hj h => absurd h (by omega)⟩
    case round =>
      obtain ⟨k, hk, rfl, hbel, hz⟩ := hrel
      by_cases hlt : k < pss.length
      · obtain ⟨b, o, B, d, rfl, hb, c0, hv⟩ := (h.below hbel).at hlt
        have hck := vcheck_any hv
        have hvl := hv.len
        have hok : okV pss[k] = true ∨ okV pss[k] = false := by cases okV pss[k] <;> simp
        have Hall : Hid (okR1 pss[k] = true → ∀ j (hj : j < pss.length), j < k + 1 → okR1 pss[j] = true) := fun hx j hj hjk => by
          rcases Nat.lt_or_ge j k with h1 | h1
          · exact hz.out j hj h1
          · obtain rfl : j = k := by omega
            exact hx
        have Hnone : Hid (okR1 pss[k] = false → errR pss = 8) := fun hx => errR_bad h0 hlt hx
        have hR1 : okR1 pss[k] = (okV pss[k] && decide (0 < pss[k].length)) := rfl
        clear hv hz
        generalize pss[k] = ps at *
        rcases hok with hok | hok
        · have e1 : errV ps = 0 := by simp [errV, hok]
          rw [e1] at hck
          have Hck := Lib.hid hck
          by_cases hp : 0 < ps.length
          · have HR : Hid (okR1 ps = true) := by rw [hR1, hok, decide_eq_true hp]; rfl
            have t1 : ((ps.length : Int) == 0) = false := beq_eq_false_iff_ne.2 (by omega)
            clear hck hok e1 hR1 hp
            generalize ps.length = L at *
            go_wp2_with fail
            refine Hck.out.mono ?_
            rintro e w1 ⟨rfl, hb2⟩
            have hb3 := from_ hbel hb2
            go_wp2
            go_roundw
            case rel => exact ⟨k + 1, by omega, by go_num, hb3, Lib.hid (Hall.out HR.out)⟩
            case measure => simp [intOf]; omega
          · have HR : Hid (okR1 ps = false) := by rw [hR1, hok, decide_eq_false hp]; rfl
            have hL : ps.length = 0 := by omega
            rw [hL] at Hck c0 hvl
            clear hck hok e1 hR1 hp hL
            go_wp2_with fail
            refine Hck.out.mono ?_
            rintro e w1 ⟨rfl, hb2⟩
            have hb3 := from_ hbel hb2
            go_wp2
            go_ret
            rw [Hnone.out HR.out]
            exact ⟨rfl, hb3⟩
        · have e1 : errV ps = 8 := by simp [errV, hok]
          rw [e1] at hck
          have Hck := Lib.hid hck
          have HR : Hid (okR1 ps = false) := by rw [hR1, hok]; rfl
          clear hck hok e1 hR1
          generalize ps.length = L at *
          go_wp2_with fail
          refine Hck.out.mono ?_
          rintro e w1 ⟨rfl, hb2⟩
          have hb3 := from_ hbel hb2
          go_wp2
          go_ret
          rw [Hnone.out HR.out]
          exact ⟨rfl, hb3⟩
      · obtain rfl : k = pss.length := by omega
        have hall : okR pss = true := okR_iff.2 fun j hj => hz.out j hj hj
        have Hall := Lib.hid hall
        clear hall hz
        have hbel0 := hbel
        go_wp2
        go_loopw [27] (fun i wr => ∃ k : Nat, k ≤ pss.length ∧ i = .int .i64 (k : Int) ∧ Below w.heap.size w wr ∧ Hid (∀ j (hj : j < pss.length) (h0 : 0 < pss.length), j < k → pss[j].length = pss[0].length)) (fun i _ => pss.length - (intOf i).toNat)
        case atStart => exact ⟨0, Nat.zero_le _, rfl, hbel0, fun j hj _ h => absurd h (by omega)⟩
        case round =>
          clear hbel hbel0
          obtain ⟨k, hk, rfl, hbel, hz⟩ := hrel
          by_cases hlt : k < pss.length
          · have hp0 : 0 < pss.length := by omega
            obtain ⟨b, o, B, d, rfl, hb, c0, hv⟩ := (h.below hbel).at hlt
            obtain ⟨_, _, B2, d2, e, _, c1, hv2⟩ := (h.below hbel).at hp0
            cases e
            rw [Nat.add_zero] at c1
            have hvl := hv.len
            have hvl2 := hv2.len
            have Hnext : Hid (pss[k].length = pss[0].length → ∀ j (hj : j < pss.length) (h0 : 0 < pss.length), j < k + 1 → pss[j].length = pss[0].length) := fun hx j hj h0 hjk => by
              rcases Nat.lt_or_ge j k with h1 | h1
              · exact hz.out j hj h0 h1
              · obtain rfl : j = k := by omega
                exact hx
            have Hodd : Hid (pss[k].length ≠ pss[0].length → errR pss = 70) := fun hx => errR_odd h0 Hall.out hlt hp0 hx
            by_cases he : pss[k].length = pss[0].length
            · have t1 : ((pss[k].length : Int) != (pss[0].length : Int)) = false := by simp [he]
              have He := Lib.hid he
              clear he hv hv2 hz
              generalize pss[k].length = L at *
              generalize pss[0].length = L0 at *
              go_wp2
              go_roundw
              case rel => exact ⟨k + 1, by omega, by go_num, hbel, Lib.hid (Hnext.out He.out)⟩
              case measure => simp [intOf]; omega
            · have t1 : ((pss[k].length : Int) != (pss[0].length : Int)) = true := by simp; omega
              have He := Lib.hid he
              clear he hv hv2 hz
              generalize pss[k].length = L at *
              generalize pss[0].length = L0 at *
              go_wp2
              go_ret
              rw [Hodd.out He.out]
              exact ⟨rfl, hbel⟩
          · obtain rfl : k = pss.length := by omega
            have hg := errR_good h0 Hall.out fun j hj h1 => hz.out j hj h1 hj
            have Hg := Lib.hid hg
            clear hg hz
            go_wp2
            go_ret
            rw [Hg.out]
            exact ⟨rfl, hbel⟩
  · have m0 : decide ((1024 : Int) < (pss.length : Int)) = true := decide_eq_true (by omega)
    rw [errR_many h0]
    clear h h0
    generalize pss.length = L at *
    go_enter Tryz.func13, Tryz.ntmps13
    go_wp2
    go_ret
    exact ⟨rfl, Below.refl _ _⟩

end Go.Proofs.YtajmijnoikkffaaGreat

namespace Go.Proofs.YtajmijnoikkffaaGreat
open Go.RowKit
set_option linter.unusedVariables false
set_option linter.unusedSimpArgs false

end Go.Proofs.YtajmijnoikkffaaGreat

namespace Go.Proofs.YtajmijnoikkffaaGreat
open Go.RowKit
set_option linter.unusedVariables false
set_option linter.unusedSimpArgs false

/-- Rows in a row of memory. -/
def GivenV (w : World) (g : Nat) (pss : List (List (Bool × List Nat))) : Prop :=
  ∀ j (h : j < pss.length), ∃ A c, w.cell? ⟨g, j, none⟩ = some (.slice A pss[j].length c) ∧ VecAt w old A c pss[j]
theorem GivenV.below {w w' : World} {g : Nat} {pss : List (List (Bool × List Nat))} (h : GivenV w g pss) (hb : Below w.heap.size w w') : GivenV w' g pss := fun j hj => by
  obtain ⟨A, c, h0, h1⟩ := h j hj
  exact ⟨A, c, keepC hb h0, h1.below hb⟩

def errVs (pss : List (List (Bool × List Nat))) : Int := if (pss.all fun ps => okV ps) = true then (if (pss.all fun ps => decide (ps.length = (pss.headD []).length)) = true then 0 else 70) else 8

set_option maxRecDepth 100000 in
set_option maxHeartbeats 1000000 in
theorem vchecked_any {w : World} {g n : Nat} {pss : List (List (Bool × List Nat))} (h : GivenV w g pss) (hn : n = pss.length) (h1 : 0 < pss.length) (hl : pss.length ≤ 1000) :
    Calls Tryz.prog 53 #[.slice (some ⟨g, 0, none⟩) n n] w fun e w' => e = .returned (.int .i64 (errVs pss)) ∧ Below w.heap.size w w' := by
  subst hn
  go_enter Tryz.func53, Tryz.ntmps53
  go_wp2
  go_loopw [10] (fun i wr => ∃ k : Nat, k ≤ pss.length ∧ i = .int .i64 k ∧ Below w.heap.size w wr ∧ Hid (∀ j (hj : j < pss.length), j < k → okV pss[j] = true)) (fun i _ => pss.length - (intOf i).toNat)
  case atStart => exact ⟨0, Nat.zero_le _, rfl, Below.refl _ _, fun j hj h => absurd h (by omega)⟩
  case round =>
    obtain ⟨k, hk, rfl, hbel, hz⟩ := hrel
    by_cases hlt : k < pss.length
    · obtain ⟨A, c, c0, hv⟩ := (h.below hbel) k hlt
      have hck := vcheck_any hv
      have hok : okV pss[k] = true ∨ okV pss[k] = false := by cases okV pss[k] <;> simp
      have Hall : Hid (okV pss[k] = true → ∀ j (hj : j < pss.length), j < k + 1 → okV pss[j] = true) := fun hx j hj hjk => by
        rcases Nat.lt_or_ge j k with h1 | h1
        · exact hz.out j hj h1
        · obtain rfl : j = k := by omega
          exact hx
      have Hnone : Hid (okV pss[k] = false → errVs pss = 8) := fun hx => by
        unfold errVs
        rw [if_neg]
        intro hall
        have := List.all_eq_true.1 hall pss[k] (List.getElem_mem hlt)
        rw [this] at hx
        cases hx
      clear hv hz
      generalize pss[k] = ps at *
      rcases hok with hok | hok
      · have e1 : errV ps = 0 := by simp [errV, hok]
        rw [e1] at hck
        have Hck := Lib.hid hck
        have Hok := Lib.hid hok
        clear hck hok e1
        go_wp2_with fail
        refine Hck.out.mono ?_
        rintro e w1 ⟨rfl, hb2⟩
        have hb3 := from_ hbel hb2
        go_wp2
        go_roundw
        case rel => exact ⟨k + 1, by omega, by go_num, hb3, Lib.hid (Hall.out Hok.out)⟩
        case measure => simp [intOf]; omega
      · have e1 : errV ps = 8 := by simp [errV, hok]
        rw [e1] at hck
        have Hck := Lib.hid hck
        have Hok := Lib.hid hok
        clear hck hok e1
        go_wp2_with fail
        refine Hck.out.mono ?_
        rintro e w1 ⟨rfl, hb2⟩
        have hb3 := from_ hbel hb2
        go_wp2
        go_ret
        rw [Hnone.out Hok.out]
        exact ⟨rfl, hb3⟩
    · obtain rfl : k = pss.length := by omega
      have hall : (pss.all fun ps => okV ps) = true := by
        rw [List.all_eq_true]
        intro p hp
        obtain ⟨j, hj, rfl⟩ := List.getElem_of_mem hp
        exact hz.out j hj hj
      have hh : pss.headD [] = pss[0] := by
        cases pss with
        | nil => simp at h1
        | cons p t => rfl
      have he : errVs pss = if (pss.all fun ps => decide (ps.length = pss[0].length)) = true then 0 else 70 := by
        unfold errVs
        rw [if_pos hall, hh]
      have He := Lib.hid he
      clear he hall hz hh
      have d1 : (0 : Int) ≤ 1 ∧ (1 : Int) ≤ (pss.length : Int) := by omega
      obtain ⟨m, hm⟩ : ∃ m, pss.length = m + 1 := ⟨pss.length - 1, by omega⟩
      obtain ⟨A0, c0, q0, hv0⟩ := (h.below hbel) 0 h1
      have hl0 := hv0.len
      clear hv0
      have hbel0 := hbel
      have hm2 : ((m + 1 : Nat) : Int) - 1 = (m : Int) := by omega
      generalize hL0 : pss[0].length = L0 at *
      have HL0 := Lib.hid hL0
      clear hL0
      have Hm := Lib.hid hm
      rw [hm] at hlt hk
      rcases Nat.eq_zero_or_pos m with hm0 | hm0
      · subst hm0
        have he : errVs pss = 0 := by
          rw [He.out, if_pos]
          rw [List.all_eq_true]
          intro p hp
          obtain ⟨j, hj, rfl⟩ := List.getElem_of_mem hp
          have h2 := Hm.out
          obtain rfl : j = 0 := by omega
          exact decide_eq_true HL0.out
        have He2 := Lib.hid he
        clear he
        go_wp2
        go_loopw [23] (fun i wr => i = .int .i64 0 ∧ Below w.heap.size w wr) (fun i _ => 0)
        case atStart => exact ⟨rfl, hbel0⟩
        case round =>
          clear hbel hbel0
          obtain ⟨rfl, hbel⟩ := hrel
          go_wp2
          go_ret
          rw [He2.out]
          exact ⟨rfl, hbel⟩
      · have hm3 : ¬ (m = 0) := by omega
        go_wp2
        go_loopw [23] (fun i wr => ∃ k : Nat, k ≤ m ∧ i = .int .i64 k ∧ Below w.heap.size w wr ∧ Hid (∀ j (hj : j < pss.length), j < k + 1 → pss[j].length = L0)) (fun i _ => m - (intOf i).toNat)
        case atStart =>
          refine ⟨0, Nat.zero_le _, rfl, hbel0, fun j hj h => ?_⟩
          obtain rfl : j = 0 := by omega
          exact HL0.out
        case round =>
          clear q0 hbel hbel0 A0 c0
          obtain ⟨k, hk, rfl, hbel, hz⟩ := hrel
          have hm := Hm.out
          obtain ⟨A0, c0, q0, hv0⟩ := (h.below hbel) 0 h1
          rw [HL0.out] at q0
          by_cases hlt : k < m
          · obtain ⟨A, c, c1, hv⟩ := (h.below hbel) (k + 1) (by omega)
            replace c1 : wr.cell? ⟨g, 1 + k, none⟩ = some (.slice A (pss[k + 1]'(by omega)).length c) := by rw [Nat.add_comm 1 k]; exact c1
            have hok : pss[k + 1].length = L0 ∨ pss[k + 1].length ≠ L0 := by omega
            have Hall : Hid (pss[k + 1].length = L0 → ∀ j (hj : j < pss.length), j < k + 1 + 1 → pss[j].length = L0) := fun hx j hj hjk => by
              rcases Nat.lt_or_ge j (k + 1) with h1 | h1
              · exact hz.out j hj h1
              · obtain rfl : j = k + 1 := by omega
                exact hx
            have Hnone : Hid (pss[k + 1].length ≠ L0 → errVs pss = 70) := fun hx => by
              rw [He.out, if_neg]
              intro hall
              have := List.all_eq_true.1 hall pss[k + 1] (List.getElem_mem (by omega))
              exact hx (of_decide_eq_true this)
            have hlv := hv.len
            clear hv hv0 hz hm
            generalize pss[k + 1].length = L1 at *
            rcases hok with hok | hok
            · subst hok
              have hself : ((L1 : Int) != (L1 : Int)) = false := bne_self_eq_false _
              go_wp2
              go_roundw
              case rel => exact ⟨k + 1, by omega, by go_num, hbel, Lib.hid (Hall.out rfl)⟩
              case measure => simp [intOf]; omega
            · have hself : ((L1 : Int) != (L0 : Int)) = true := bne_iff_ne.2 (by omega)
              have hself2 : ¬ (L1 = L0) := hok
              have Hok := Lib.hid hok
              go_wp2
              go_ret
              rw [Hnone.out Hok.out]
              exact ⟨rfl, hbel⟩
          · obtain rfl : k = m := by omega
            have he : errVs pss = 0 := by
              rw [He.out, if_pos]
              rw [List.all_eq_true]
              intro p hp
              obtain ⟨j, hj, rfl⟩ := List.getElem_of_mem hp
              exact decide_eq_true (hz.out j hj (by omega))
            have He2 := Lib.hid he
            clear he hz hv0
            go_wp2
            go_ret
            rw [He2.out]
            exact ⟨rfl, hbel⟩


theorem errVs_two (ps qs : List (Bool × List Nat)) : errVs [ps, qs] = if okV ps = true ∧ okV qs = true then (if ps.length = qs.length then 0 else 70) else 8 := by
  unfold errVs
  by_cases h1 : okV ps = true <;> by_cases h2 : okV qs = true <;> simp [h1, h2]
  by_cases h3 : ps.length = qs.length
  · simp [h3]
  · rw [if_neg h3, if_neg (fun h => h3 h.symm)]
theorem errVs_one (ps : List (Bool × List Nat)) : errVs [ps] = errV ps := by
  unfold errVs errV
  by_cases h1 : okV ps = true <;> simp [h1]


set_option maxRecDepth 100000 in
set_option maxHeartbeats 1000000 in
theorem vsum_n {w : World} {Z1 Z2 : Zone} {x y z : Int} {s t r : Bool} {l k m : List Nat} {A B : Option Addr} {c d : Nat} (h1 : Nm x s l) (h2 : Nm y t k) (h3 : Nm z r m) (hz : x + y = z) (hl : l.length ≤ 90000000000) (hl2 : k.length ≤ 90000000000) (u1 : U64s w Z1 A c l) (u2 : U64s w Z2 B d k) :
    Calls Tryz.prog 65 #[.agg #[.bool s, .slice A l.length c], .agg #[.bool t, .slice B k.length d]] w fun e w' => ∃ Av cv, e = .returned (.agg #[.bool r, .slice Av m.length cv]) ∧ U64s w' (new w.heap.size) Av cv m ∧ Below w.heap.size w w' := by
  obtain ⟨bA, bB, bR, hB0⟩ := boxes3 w (.bool s) (.slice A l.length c) (.bool t) (.slice B k.length d) (.bool false) (.slice none 0 0) 42
  have hop := wadd_n h1 h2 h3 hz hl hl2 (u1.below hB0) (u2.below hB0)
  have Hop := Lib.hid hop
  clear hop h1 h2 h3 hz hl hl2 u1 u2
  generalize l.length = ll at *
  generalize k.length = lk at *
  obtain ⟨a0, a1, _, _, _⟩ := bA
  obtain ⟨b0, b1, _, _, _⟩ := bB
  go_enter Tryz.func65, Tryz.ntmps65
  go_wp2_with fail
  refine Hop.out.mono ?_
  rintro e w1 ⟨Av, cv, rfl, hv, hc1⟩
  have bRw := bR.below hc1
  have hBw := from_ hB0 hc1
  have hP := bRw.put hBw (by omega) (.bool r) (.slice Av m.length cv)
  have hiv : IsU w1 _ (.slice Av m.length cv) m := ⟨Av, cv, rfl, hv⟩
  have hu2 := (hP.keep (by simp <;> omega) hiv).below ((Below.refl _ _).alloc (Nat.le_refl _) (.cells #[.bool r, .slice Av m.length cv] 42))
  have hbx := hP.box.alloc (.cells #[.bool r, .slice Av m.length cv] 42)
  have hbl := hP.bel.alloc hP.bel.size (.cells #[.bool r, .slice Av m.length cv] 42)
  have Hu := Lib.hid hu2
  have Hbx := Lib.hid hbx
  have Hbl := Lib.hid hbl
  have hz2 : w.heap.size + 2 < w1.heap.size := bRw.lt
  have hne : ¬ (w1.heap.size = w.heap.size + 1 + 1) := by omega
  have hne2 : ¬ (w.heap.size + 1 + 1 = w1.heap.size) := by omega
  obtain ⟨q0, q1, f0, f1, _⟩ := (show Box w1 (w.heap.size + 1 + 1) _ _ from bRw)
  clear hP hbx hbl hu2 hiv hv hBw bR hB0 hc1
  go_wp2
  refine bodyPost_ret (res_int rfl _ (w.heap.size + 2) rfl Hbx.out.c0 Hbx.out.c1) rfl ?_
  obtain ⟨A', c', e', h'⟩ := Hu.out
  injection e' with e1 e2 e3
  subst e1 e3
  exact ⟨_, _, rfl, h', Hbl.out⟩

set_option maxRecDepth 100000 in
set_option maxHeartbeats 1000000 in
theorem vprod_n {w : World} {Z1 Z2 : Zone} {x y z : Int} {s t r : Bool} {l k m : List Nat} {A B : Option Addr} {c d : Nat} (h1 : Nm x s l) (h2 : Nm y t k) (h3 : Nm z r m) (hz : x * y = z) (hl : l.length ≤ 90000000000) (hl2 : k.length ≤ 90000000000) (u1 : U64s w Z1 A c l) (u2 : U64s w Z2 B d k) :
    Calls Tryz.prog 55 #[.agg #[.bool s, .slice A l.length c], .agg #[.bool t, .slice B k.length d]] w fun e w' => ∃ Av cv, e = .returned (.agg #[.bool r, .slice Av m.length cv]) ∧ U64s w' (new w.heap.size) Av cv m ∧ Below w.heap.size w w' := by
  obtain ⟨bA, bB, bR, hB0⟩ := boxes3 w (.bool s) (.slice A l.length c) (.bool t) (.slice B k.length d) (.bool false) (.slice none 0 0) 42
  have hop := wmul_n h1 h2 h3 hz hl hl2 (u1.below hB0) (u2.below hB0)
  have Hop := Lib.hid hop
  clear hop h1 h2 h3 hz hl hl2 u1 u2
  generalize l.length = ll at *
  generalize k.length = lk at *
  obtain ⟨a0, a1, _, _, _⟩ := bA
  obtain ⟨b0, b1, _, _, _⟩ := bB
  go_enter Tryz.func55, Tryz.ntmps55
  go_wp2_with fail
  refine Hop.out.mono ?_
  rintro e w1 ⟨Av, cv, rfl, hv, hc1⟩
  have bRw := bR.below hc1
  have hBw := from_ hB0 hc1
  have hP := bRw.put hBw (by omega) (.bool r) (.slice Av m.length cv)
  have hiv : IsU w1 _ (.slice Av m.length cv) m := ⟨Av, cv, rfl, hv⟩
  have hu2 := (hP.keep (by simp <;> omega) hiv).below ((Below.refl _ _).alloc (Nat.le_refl _) (.cells #[.bool r, .slice Av m.length cv] 42))
  have hbx := hP.box.alloc (.cells #[.bool r, .slice Av m.length cv] 42)
  have hbl := hP.bel.alloc hP.bel.size (.cells #[.bool r, .slice Av m.length cv] 42)
  have Hu := Lib.hid hu2
  have Hbx := Lib.hid hbx
  have Hbl := Lib.hid hbl
  have hz2 : w.heap.size + 2 < w1.heap.size := bRw.lt
  have hne : ¬ (w1.heap.size = w.heap.size + 1 + 1) := by omega
  have hne2 : ¬ (w.heap.size + 1 + 1 = w1.heap.size) := by omega
  obtain ⟨q0, q1, f0, f1, _⟩ := (show Box w1 (w.heap.size + 1 + 1) _ _ from bRw)
  clear hP hbx hbl hu2 hiv hv hBw bR hB0 hc1
  go_wp2
  refine bodyPost_ret (res_int rfl _ (w.heap.size + 2) rfl Hbx.out.c0 Hbx.out.c1) rfl ?_
  obtain ⟨A', c', e', h'⟩ := Hu.out
  injection e' with e1 e2 e3
  subst e1 e3
  exact ⟨_, _, rfl, h', Hbl.out⟩

end Go.Proofs.YtajmijnoikkffaaGreat

namespace Go.Proofs.YtajmijnoikkffaaGreat
open Go.RowKit
set_option linter.unusedVariables false
set_option linter.unusedSimpArgs false

/-- The cells of a row in which the first k numbers stand. -/
def CellsQ (w : World) (g : Nat) (xs : List Value) (k : Nat) (qs : List (Bool × List Nat)) : Prop :=
  ∀ j (hj : j < qs.length), j < k → ∃ A c, xs[j * 2]? = some (.bool qs[j].1) ∧ xs[j * 2 + 1]? = some (.slice A qs[j].2.length c) ∧ U64s w (new (g + 1)) A c qs[j].2

theorem CellsQ.keep {w w' : World} {g : Nat} {xs : List Value} {k : Nat} {qs : List (Bool × List Nat)} (h : CellsQ w g xs k qs) (hk : ∀ b, b ≠ g → b < w.heap.size → w'.heap[b]? = w.heap[b]?) : CellsQ w' g xs k qs := fun j hj hjk => by
  obtain ⟨A, c, c0, c1, hu⟩ := h j hj hjk
  exact ⟨A, c, c0, c1, hu.keep fun b hb hl => hk b (by have : g + 1 ≤ b := hb; omega) hl⟩

theorem CellsQ.put {w w' : World} {g : Nat} {xs : List Value} {k : Nat} {qs : List (Bool × List Nat)} {A : Option Addr} {c : Nat} (h : CellsQ w g xs k qs) (hl : xs.length = qs.length * 2) (hk : k < qs.length)
    (hu : U64s w (new (g + 1)) A c (qs[k]).2) (hw : ∀ b, b ≠ g → b < w.heap.size → w'.heap[b]? = w.heap[b]?) :
    CellsQ w' g ((xs.set (k * 2) (.bool (qs[k]).1)).set (k * 2 + 1) (.slice A (qs[k]).2.length c)) (k + 1) qs := fun j hj hjk => by
  rcases Nat.lt_or_ge j k with h1 | h1
  · obtain ⟨A', c', c0, c1, hu'⟩ := h j hj h1
    refine ⟨A', c', ?_, ?_, hu'.keep fun b hb hl => hw b (by have : g + 1 ≤ b := hb; omega) hl⟩
    · rw [List.getElem?_set_ne (by omega), List.getElem?_set_ne (by omega)]
      exact c0
    · rw [List.getElem?_set_ne (by omega), List.getElem?_set_ne (by omega)]
      exact c1
  · obtain rfl : j = k := by omega
    refine ⟨A, c, ?_, ?_, hu.keep fun b hb hl => hw b (by have : g + 1 ≤ b := hb; omega) hl⟩
    · rw [List.getElem?_set_ne (by omega), List.getElem?_set_self (by omega)]
    · rw [List.getElem?_set_self (by rw [List.length_set]; omega)]

theorem CellsQ.fin {w : World} {g : Nat} {xs : List Value} {qs : List (Bool × List Nat)} {B : Nat} {e : TypeId} (h : CellsQ w g xs qs.length qs) (hown : w.ownsRow B e 2 (.slice (some ⟨g, 0, none⟩) qs.length qs.length) qs.length xs) (hg : g < w.heap.size) (hB : B ≤ g) (hm : qs.length ≤ 1000000000000) : VecAt w (new B) (some ⟨g, 0, none⟩) qs.length qs := by
  refine ⟨Nat.le_refl _, by omega, fun h0 => ⟨g, 0, rfl, hB, hg, fun _ j => by rw [Nat.zero_add]; exact hown.frozenAt j, fun j hj => ?_⟩⟩
  obtain ⟨A, c, c0, c1, hu⟩ := h j hj hj
  exact ⟨A, c, by rw [Nat.zero_add, hown.cellAt (j * 2) (by omega)]; exact c0, by rw [Nat.zero_add, hown.cellAt (j * 2 + 1) (by omega)]; exact c1, hu.mono (new_le (by omega))⟩

set_option maxRecDepth 100000 in
set_option maxHeartbeats 2000000 in
theorem veach_scale {w : World} {Z : Zone} {A : Option Addr} {c : Nat} {ps qs : List (Bool × List Nat)} {p0 : Addr} (ha : VecAt w Z A c ps) (hq : qs.length = ps.length) (hl : ps.length ≤ 100000000000)
    (hF : ∀ j (hj : j < ps.length) (hj' : j < qs.length) (w1 : World) B d, Below w.heap.size w w1 → U64s w1 Z B d ps[j].2 → Calls Tryz.prog 54 #[.int .i64 (j : Int), .agg #[.bool ps[j].1, .slice B ps[j].2.length d], .pointer (some p0)] w1 fun e w' => ∃ A c, e = .returned (.agg #[.bool qs[j].1, .slice A qs[j].2.length c]) ∧ U64s w' (new w1.heap.size) A c qs[j].2 ∧ Below w1.heap.size w1 w') :
    Calls Tryz.prog 30 #[.slice A ps.length c, .func (.func 54) #[] #[.pointer (some p0)]] w fun e w' => ∃ Av cv, e = .returned (.slice Av qs.length cv) ∧ VecAt w' (new w.heap.size) Av cv qs ∧ Below w.heap.size w w' := by
  obtain ⟨i0, hi, hz0, hz1, hz2⟩ := info_parts infoI
  obtain ⟨n, hn⟩ : ∃ n, n = ps.length := ⟨_, rfl⟩
  have hn' : qs.length = n := by omega
  have HF := Lib.hid hF
  have hmx := ha.max
  have hcp := ha.cap
  rw [← hn] at hl hcp ⊢
  have Hn := Lib.hid hn
  have Hn' := Lib.hid hn'
  clear hF hq hn hn'
  go_enter Tryz.func30, Tryz.ntmps30
  go_wp2_with (at_make; go_loud (refine wpList_make_full _ rfl _ _ 23 rfl w.heap.size 42 i0 (.agg #[.bool false, .slice none 0 0]) 2 Tryz.underlying23 hi hz0 hz1 .i64 .i64 _ _ n rfl rfl rfl rfl (by rw [hz2]; omega) (by simp only [maxLen]; omega) (Nat.le_refl _) ?_); intro w1 hown hgrow)
  have hb1 : Below w.heap.size w w1 := (Below.refl _ w).grown hgrow (Nat.le_refl _) (fun k h => by cases h)
  generalize (madeCells (Value.agg #[.bool false, .slice none 0 0]).cells (n * 2)).toList = xs0 at hown
  clear hgrow
  go_wp2
  go_loopw [13] (fun i wr => ∃ (k : Nat) (xs : List Value), k ≤ n ∧ i = .int .i64 (k : Int) ∧ wr.ownsRow w.heap.size 42 2 (.slice (some ⟨w.heap.size, 0, none⟩) n n) n xs ∧ Hid (CellsQ wr w.heap.size xs k qs) ∧ Below w.heap.size w wr ∧ w.heap.size < wr.heap.size) (fun i _ => n - (intOf i).toNat)
  case atStart => exact ⟨0, xs0, Nat.zero_le _, rfl, hown, fun j hj h => absurd h (by omega), hb1, (hown.lt _ rfl).2⟩
  case round =>
    clear hown hb1
    obtain ⟨k, xs, hk, rfl, hown, hcells, hbel, hgt⟩ := hrel
    by_cases hlt : k < n
    · have hkp : k < ps.length := by have := Hn.out; omega
      have hkq : k < qs.length := by have := Hn'.out; omega
      obtain ⟨b, o, B, d, rfl, hbb, c0, c1, hu⟩ := (ha.below hbel).at hkp
      have hxl := hown.1
      have hput := fun (w2 w' : World) (A2 : Option Addr) (c2 : Nat) (h1 : CellsQ w2 w.heap.size xs k qs) h2 h3 => h1.put (w' := w') (A := A2) (c := c2) (by have := Hn'.out; omega) hkq h2 h3
      have Hput := Lib.hid hput
      have hal : Below wr.heap.size wr (wr.alloc (.cells #[.bool ps[k].1, .slice B ps[k].2.length d] 42)) := (Below.refl _ _).alloc (Nat.le_refl _) _
      have hfk := HF.out k hkp hkq _ B d (from_ hbel hal) (by
        obtain ⟨b', o', B', d', e, _, _, c1', hu'⟩ := ha.at hkp
        injection e with e
        injection e with e1 e2
        subst e1 e2
        have h5 := (keepC hbel c1').symm.trans c1
        injection h5 with h5
        injection h5 with h6 h7 h8
        subst h6 h8
        exact (hu'.below hbel).below hal)
      have Hfk := Lib.hid hfk
      have Hal := Lib.hid hal
      clear hput hfk hal hu
      generalize ps[k].1 = s at *
      generalize ps[k].2 = l at *
      generalize qs[k].1 = s2 at *
      generalize qs[k].2 = l2 at *
      go_wp2_with fail
      refine Hfk.out.mono ?_
      rintro e w2 ⟨Au, cu, rfl, hu', hb2⟩
      have hb3 := from_ Hal.out hb2
      have hown2 := own_below hown hb3
      have hcells2 := hcells.out.keep (w' := w2) fun b _ hl => hb3.block b hl
      have hub := hu'.mono (Y := new (w.heap.size + 1)) (new_le (by have := Hal.out.size; omega))
      have hP := Hput.out w2 ((w2.setCell ⟨w.heap.size, k * 2, none⟩ (.bool s2)).setCell ⟨w.heap.size, k * 2 + 1, none⟩ (.slice Au l2.length cu)) Au cu hcells2 hub (fun b hb _ => by
        rw [Below.heap_setCell _ _ _ _ hb, Below.heap_setCell _ _ _ _ hb])
      have d0 := hown2.cellAt (k * 2) (by omega)
      have d1 := hown2.cellAt (k * 2 + 1) (by omega)
      rw [List.getElem?_eq_getElem (by omega)] at d0 d1
      have f0 := hown2.frozenAt (k * 2)
      have f1 := hown2.frozenAt (k * 2 + 1)
      have o1 := (hown2.stored (k * 2) (.bool s2)).1
      have o2 := (o1.stored (k * 2 + 1) (.slice Au l2.length cu)).1
      have hB2 := from_ hbel hb3
      have hB3 := (hB2.setCell (p := ⟨w.heap.size, k * 2, none⟩) (Nat.le_refl _) (.bool s2)).setCell (p := ⟨w.heap.size, k * 2 + 1, none⟩) (Nat.le_refl _) (.slice Au l2.length cu)
      have hgt3 : w.heap.size < ((w2.setCell ⟨w.heap.size, k * 2, none⟩ (.bool s2)).setCell ⟨w.heap.size, k * 2 + 1, none⟩ (.slice Au l2.length cu)).heap.size := by
        have := hb3.size
        simp [World.setCell]
        omega
      have HP := Lib.hid hP
      have HO := Lib.hid o2
      have HB := Lib.hid hB3
      clear hP o1 o2 hu' hub hown2 hcells2 hcells hown hB2 hB3 hb2 hb3 Hput
      generalize xs[k * 2] = x0 at *
      generalize xs[k * 2 + 1] = x1 at *
      go_wp2
      go_roundw
      case rel => exact ⟨k + 1, _, by omega, by go_num, HO.out, HP, HB.out, hgt3⟩
      case measure => simp [intOf]; omega
    · obtain rfl : n = k := by omega
      have hnn := Hn'.out
      have hfin : VecAt wr (new w.heap.size) (some ⟨w.heap.size, 0, none⟩) n qs := by
        have h1 := hcells.out
        rw [← hnn] at h1 hown ⊢
        exact h1.fin hown hgt (Nat.le_refl _) (by omega)
      have Hfin := Lib.hid hfin
      clear hfin hcells hown
      go_wp2
      go_ret
      rw [Hn'.out]
      exact ⟨_, _, rfl, Hfin.out, hbel⟩

set_option maxRecDepth 100000 in
set_option maxHeartbeats 2000000 in
theorem veach_mix {w : World} {Z : Zone} {A : Option Addr} {c : Nat} {ps qs : List (Bool × List Nat)} {p0 p1 p2 : Addr} (ha : VecAt w Z A c ps) (hq : qs.length = ps.length) (hl : ps.length ≤ 100000000000)
    (hF : ∀ j (hj : j < ps.length) (hj' : j < qs.length) (w1 : World) B d, Below w.heap.size w w1 → U64s w1 Z B d ps[j].2 → Calls Tryz.prog 64 #[.int .i64 (j : Int), .agg #[.bool ps[j].1, .slice B ps[j].2.length d], .pointer (some p0), .pointer (some p1), .pointer (some p2)] w1 fun e w' => ∃ A c, e = .returned (.agg #[.bool qs[j].1, .slice A qs[j].2.length c]) ∧ U64s w' (new w1.heap.size) A c qs[j].2 ∧ Below w1.heap.size w1 w') :
    Calls Tryz.prog 30 #[.slice A ps.length c, .func (.func 64) #[] #[.pointer (some p0), .pointer (some p1), .pointer (some p2)]] w fun e w' => ∃ Av cv, e = .returned (.slice Av qs.length cv) ∧ VecAt w' (new w.heap.size) Av cv qs ∧ Below w.heap.size w w' := by
  obtain ⟨i0, hi, hz0, hz1, hz2⟩ := info_parts infoI
  obtain ⟨n, hn⟩ : ∃ n, n = ps.length := ⟨_, rfl⟩
  have hn' : qs.length = n := by omega
  have HF := Lib.hid hF
  have hmx := ha.max
  have hcp := ha.cap
  rw [← hn] at hl hcp ⊢
  have Hn := Lib.hid hn
  have Hn' := Lib.hid hn'
  clear hF hq hn hn'
  go_enter Tryz.func30, Tryz.ntmps30
  go_wp2_with (at_make; go_loud (refine wpList_make_full _ rfl _ _ 23 rfl w.heap.size 42 i0 (.agg #[.bool false, .slice none 0 0]) 2 Tryz.underlying23 hi hz0 hz1 .i64 .i64 _ _ n rfl rfl rfl rfl (by rw [hz2]; omega) (by simp only [maxLen]; omega) (Nat.le_refl _) ?_); intro w1 hown hgrow)
  have hb1 : Below w.heap.size w w1 := (Below.refl _ w).grown hgrow (Nat.le_refl _) (fun k h => by cases h)
  generalize (madeCells (Value.agg #[.bool false, .slice none 0 0]).cells (n * 2)).toList = xs0 at hown
  clear hgrow
  go_wp2
  go_loopw [13] (fun i wr => ∃ (k : Nat) (xs : List Value), k ≤ n ∧ i = .int .i64 (k : Int) ∧ wr.ownsRow w.heap.size 42 2 (.slice (some ⟨w.heap.size, 0, none⟩) n n) n xs ∧ Hid (CellsQ wr w.heap.size xs k qs) ∧ Below w.heap.size w wr ∧ w.heap.size < wr.heap.size) (fun i _ => n - (intOf i).toNat)
  case atStart => exact ⟨0, xs0, Nat.zero_le _, rfl, hown, fun j hj h => absurd h (by omega), hb1, (hown.lt _ rfl).2⟩
  case round =>
    clear hown hb1
    obtain ⟨k, xs, hk, rfl, hown, hcells, hbel, hgt⟩ := hrel
    by_cases hlt : k < n
    · have hkp : k < ps.length := by have := Hn.out; omega
      have hkq : k < qs.length := by have := Hn'.out; omega
      obtain ⟨b, o, B, d, rfl, hbb, c0, c1, hu⟩ := (ha.below hbel).at hkp
      have hxl := hown.1
      have hput := fun (w2 w' : World) (A2 : Option Addr) (c2 : Nat) (h1 : CellsQ w2 w.heap.size xs k qs) h2 h3 => h1.put (w' := w') (A := A2) (c := c2) (by have := Hn'.out; omega) hkq h2 h3
      have Hput := Lib.hid hput
      have hal : Below wr.heap.size wr (wr.alloc (.cells #[.bool ps[k].1, .slice B ps[k].2.length d] 42)) := (Below.refl _ _).alloc (Nat.le_refl _) _
      have hfk := HF.out k hkp hkq _ B d (from_ hbel hal) (by
        obtain ⟨b', o', B', d', e, _, _, c1', hu'⟩ := ha.at hkp
        injection e with e
        injection e with e1 e2
        subst e1 e2
        have h5 := (keepC hbel c1').symm.trans c1
        injection h5 with h5
        injection h5 with h6 h7 h8
        subst h6 h8
        exact (hu'.below hbel).below hal)
      have Hfk := Lib.hid hfk
      have Hal := Lib.hid hal
      clear hput hfk hal hu
      generalize ps[k].1 = s at *
      generalize ps[k].2 = l at *
      generalize qs[k].1 = s2 at *
      generalize qs[k].2 = l2 at *
      go_wp2_with fail
      refine Hfk.out.mono ?_
      rintro e w2 ⟨Au, cu, rfl, hu', hb2⟩
      have hb3 := from_ Hal.out hb2
      have hown2 := own_below hown hb3
      have hcells2 := hcells.out.keep (w' := w2) fun b _ hl => hb3.block b hl
      have hub := hu'.mono (Y := new (w.heap.size + 1)) (new_le (by have := Hal.out.size; omega))
      have hP := Hput.out w2 ((w2.setCell ⟨w.heap.size, k * 2, none⟩ (.bool s2)).setCell ⟨w.heap.size, k * 2 + 1, none⟩ (.slice Au l2.length cu)) Au cu hcells2 hub (fun b hb _ => by
        rw [Below.heap_setCell _ _ _ _ hb, Below.heap_setCell _ _ _ _ hb])
      have d0 := hown2.cellAt (k * 2) (by omega)
      have d1 := hown2.cellAt (k * 2 + 1) (by omega)
      rw [List.getElem?_eq_getElem (by omega)] at d0 d1
      have f0 := hown2.frozenAt (k * 2)
      have f1 := hown2.frozenAt (k * 2 + 1)
      have o1 := (hown2.stored (k * 2) (.bool s2)).1
      have o2 := (o1.stored (k * 2 + 1) (.slice Au l2.length cu)).1
      have hB2 := from_ hbel hb3
      have hB3 := (hB2.setCell (p := ⟨w.heap.size, k * 2, none⟩) (Nat.le_refl _) (.bool s2)).setCell (p := ⟨w.heap.size, k * 2 + 1, none⟩) (Nat.le_refl _) (.slice Au l2.length cu)
      have hgt3 : w.heap.size < ((w2.setCell ⟨w.heap.size, k * 2, none⟩ (.bool s2)).setCell ⟨w.heap.size, k * 2 + 1, none⟩ (.slice Au l2.length cu)).heap.size := by
        have := hb3.size
        simp [World.setCell]
        omega
      have HP := Lib.hid hP
      have HO := Lib.hid o2
      have HB := Lib.hid hB3
      clear hP o1 o2 hu' hub hown2 hcells2 hcells hown hB2 hB3 hb2 hb3 Hput
      generalize xs[k * 2] = x0 at *
      generalize xs[k * 2 + 1] = x1 at *
      go_wp2
      go_roundw
      case rel => exact ⟨k + 1, _, by omega, by go_num, HO.out, HP, HB.out, hgt3⟩
      case measure => simp [intOf]; omega
    · obtain rfl : n = k := by omega
      have hnn := Hn'.out
      have hfin : VecAt wr (new w.heap.size) (some ⟨w.heap.size, 0, none⟩) n qs := by
        have h1 := hcells.out
        rw [← hnn] at h1 hown ⊢
        exact h1.fin hown hgt (Nat.le_refl _) (by omega)
      have Hfin := Lib.hid hfin
      clear hfin hcells hown
      go_wp2
      go_ret
      rw [Hn'.out]
      exact ⟨_, _, rfl, Hfin.out, hbel⟩

end Go.Proofs.YtajmijnoikkffaaGreat

namespace Go.Proofs.YtajmijnoikkffaaGreat
open Go.RowKit
set_option linter.unusedVariables false
set_option linter.unusedSimpArgs false

theorem stV {w : World} {g i b j k : Nat} {v x y : Value} (h : w.cell? ⟨g, i, none⟩ = some v) (hn : b ≠ g) : ((w.setCell ⟨b, j, none⟩ x).setCell ⟨b, k, none⟩ y).cell? ⟨g, i, none⟩ = some v := by
  rw [World.cell?_setCell_other _ _ _ _ (fun e => hn (by injection e)), World.cell?_setCell_other _ _ _ _ (fun e => hn (by injection e))]
  exact h

set_option maxRecDepth 100000 in
set_option maxHeartbeats 2000000 in
theorem vmix1 {w : World} {Z1 Z2 Z3 Z4 : Zone} {x y z zm zn zp zq : Int} {s t r sm sn sp sq : Bool} {l k m lm ln lp lq : List Nat} {A B Am An : Option Addr} {c d g b o n cb ix gm gn cm cn : Nat} (e0 : w.cell? ⟨gm, 0, none⟩ = some (.bool sm)) (e1 : w.cell? ⟨gm, 1, none⟩ = some (.slice Am lm.length cm)) (e2 : w.cell? ⟨gn, 0, none⟩ = some (.bool sn)) (e3 : w.cell? ⟨gn, 1, none⟩ = some (.slice An ln.length cn)) (e4 : w.cell? ⟨g, 0, none⟩ = some (.slice (some ⟨b, o, none⟩) n cb)) (hi : ix < n) (e5 : w.cell? ⟨b, o + ix * 2, none⟩ = some (.bool t)) (e6 : w.cell? ⟨b, o + ix * 2 + 1, none⟩ = some (.slice B k.length d)) (h1 : Nm x s l) (h2 : Nm y t k) (hm : Nm zm sm lm) (hn0 : Nm zn sn ln) (hp : Nm zp sp lp) (hq : Nm zq sq lq) (h3 : Nm z r m) (hzp : zm * x = zp) (hzq : zn * y = zq) (hz : zp + zq = z) (hl : l.length ≤ 40000000000) (hl2 : k.length ≤ 40000000000) (hl3 : lm.length ≤ 40000000000) (hl4 : ln.length ≤ 40000000000) (hn : n ≤ 100000000000) (u1 : U64s w Z1 A c l) (u2 : U64s w Z2 B d k) (um : U64s w Z3 Am cm lm) (un : U64s w Z4 An cn ln) :
    Calls Tryz.prog 64 #[.int .i64 (ix : Int), .agg #[.bool s, .slice A l.length c], .pointer (some ⟨gm, 0, none⟩), .pointer (some ⟨gn, 0, none⟩), .pointer (some ⟨g, 0, none⟩)] w fun e w' => ∃ Av cv, e = .returned (.agg #[.bool r, .slice Av m.length cv]) ∧ U64s w' (new w.heap.size) Av cv m ∧ Below w.heap.size w w' := by
  obtain ⟨bA, bR, hB0⟩ := boxes2 w (.bool s) (.slice A l.length c) (.bool false) (.slice none 0 0) 42
  obtain ⟨a0, a1, _, _, _⟩ := bA
  have hg : g < w.heap.size := lt_of_cell e4
  have hb : b < w.heap.size := lt_of_cell e5
  have hgm : gm < w.heap.size := lt_of_cell e0
  have hgn : gn < w.heap.size := lt_of_cell e2
  replace e0 := keepC hB0 e0
  replace e1 := keepC hB0 e1
  replace e2 := keepC hB0 e2
  replace e3 := keepC hB0 e3
  replace e4 := keepC hB0 e4
  replace e5 := keepC hB0 e5
  replace e6 := keepC hB0 e6
  have hlp : lp.length ≤ 90000000000 := by
    have := lz_mul zm x
    rw [hzp, ← hp.len, ← hm.len, ← h1.len] at this
    omega
  have hlq : lq.length ≤ 90000000000 := by
    have := lz_mul zn y
    rw [hzq, ← hq.len, ← hn0.len, ← h2.len] at this
    omega
  have hd : Below w.heap.size w ((w.alloc (.cells #[.bool s, .slice A l.length c] 42)).alloc (.cells #[.bool false, .slice none 0 0] 42)).drew := hB0.drew
  have HB := Lib.hid hd
  have bRd := bR.below (W' := ((w.alloc (.cells #[.bool s, .slice A l.length c] 42)).alloc (.cells #[.bool false, .slice none 0 0] 42)).drew) ((Below.refl _ _).drew)
  have s0 := (show ((w.alloc (.cells #[.bool s, .slice A l.length c] 42)).alloc (.cells #[.bool false, .slice none 0 0] 42)).drew.cell? ⟨w.heap.size, 0, none⟩ = _ from a0)
  have s1 := (show ((w.alloc (.cells #[.bool s, .slice A l.length c] 42)).alloc (.cells #[.bool false, .slice none 0 0] 42)).drew.cell? ⟨w.heap.size, 1, none⟩ = _ from a1)
  have s2 := (show ((w.alloc (.cells #[.bool s, .slice A l.length c] 42)).alloc (.cells #[.bool false, .slice none 0 0] 42)).drew.cell? ⟨gm, 0, none⟩ = _ from e0)
  have s3 := (show ((w.alloc (.cells #[.bool s, .slice A l.length c] 42)).alloc (.cells #[.bool false, .slice none 0 0] 42)).drew.cell? ⟨gm, 1, none⟩ = _ from e1)
  have s4 := (show ((w.alloc (.cells #[.bool s, .slice A l.length c] 42)).alloc (.cells #[.bool false, .slice none 0 0] 42)).drew.cell? ⟨gn, 0, none⟩ = _ from e2)
  have s5 := (show ((w.alloc (.cells #[.bool s, .slice A l.length c] 42)).alloc (.cells #[.bool false, .slice none 0 0] 42)).drew.cell? ⟨gn, 1, none⟩ = _ from e3)
  have s6 := (show ((w.alloc (.cells #[.bool s, .slice A l.length c] 42)).alloc (.cells #[.bool false, .slice none 0 0] 42)).drew.cell? ⟨g, 0, none⟩ = _ from e4)
  have s7 := (show ((w.alloc (.cells #[.bool s, .slice A l.length c] 42)).alloc (.cells #[.bool false, .slice none 0 0] 42)).drew.cell? ⟨b, o + ix * 2, none⟩ = _ from e5)
  have s8 := (show ((w.alloc (.cells #[.bool s, .slice A l.length c] 42)).alloc (.cells #[.bool false, .slice none 0 0] 42)).drew.cell? ⟨b, o + ix * 2 + 1, none⟩ = _ from e6)
  have C0 := Lib.hid (vprod_n hm h1 hp hzp (by omega) (by omega) (um.below hB0.drew) (u1.below hB0.drew))
  have C1 := Lib.hid (fun (w1 : World) (h : Below w.heap.size w w1) => vprod_n hn0 h2 hq hzq (by omega) (by omega) (un.below h) (u2.below h))
  have C2 := Lib.hid (fun (w1 : World) (A0 : Option Addr) (c0 : Nat) (Z0 : Zone) (A1 : Option Addr) (c1 : Nat) (Z1 : Zone) (h : U64s w1 Z0 A0 c0 lp) (h' : U64s w1 Z1 A1 c1 lq) => vsum_n hp hq h3 hz hlp hlq h h')
  clear h1 h2 h3 hz hl hl2 hl3 hl4 hlp hlq hm hn0 hp hq hzp hzq u1 u2 um un hB0 hd bR a0 a1 e0 e1 e2 e3 e4 e5 e6
  go_enter Tryz.func64, Tryz.ntmps64
  go_wp2
  go_region_held3 (fun w' => w'.cell? ⟨w.heap.size, 0, none⟩ = some (.bool s) ∧ w'.cell? ⟨w.heap.size, 1, none⟩ = some (.slice A l.length c) ∧ w'.cell? ⟨gm, 0, none⟩ = some (.bool sm) ∧ w'.cell? ⟨gm, 1, none⟩ = some (.slice Am lm.length cm) ∧ w'.cell? ⟨gn, 0, none⟩ = some (.bool sn) ∧ w'.cell? ⟨gn, 1, none⟩ = some (.slice An ln.length cn) ∧ w'.cell? ⟨g, 0, none⟩ = some (.slice (some ⟨b, o, none⟩) n cb) ∧ w'.cell? ⟨b, o + ix * 2, none⟩ = some (.bool t) ∧ w'.cell? ⟨b, o + ix * 2 + 1, none⟩ = some (.slice B k.length d))
    (first
      | (go_keep; done)
      | exact ⟨t0_0, t0_1, t0_2, t0_3, t0_4, t0_5, t0_6, t0_7, t0_8⟩
      | exact ⟨t1_0, t1_1, t1_2, t1_3, t1_4, t1_5, t1_6, t1_7, t1_8⟩
      | exact ⟨t2_0, t2_1, t2_2, t2_3, t2_4, t2_5, t2_6, t2_7, t2_8⟩
      | exact ⟨stV t2_0 (by omega), stV t2_1 (by omega), stV t2_2 (by omega), stV t2_3 (by omega), stV t2_4 (by omega), stV t2_5 (by omega), stV t2_6 (by omega), stV t2_7 (by omega), stV t2_8 (by omega)⟩)
    (first
      | (go_at_call 55; with_reducible refine (C0.out).mono ?_; rintro e w1 ⟨A0, c0, rfl, u0, hc0⟩; have t0_0 := keepC hc0 s0; have t0_1 := keepC hc0 s1; have t0_2 := keepC hc0 s2; have t0_3 := keepC hc0 s3; have t0_4 := keepC hc0 s4; have t0_5 := keepC hc0 s5; have t0_6 := keepC hc0 s6; have t0_7 := keepC hc0 s7; have t0_8 := keepC hc0 s8)
      | (go_at_call 55; with_reducible refine (C1.out _ (from_ HB.out hc0)).mono ?_; rintro e w2 ⟨A1, c1, rfl, u1', hc1⟩; have t1_0 := keepC hc1 t0_0; have t1_1 := keepC hc1 t0_1; have t1_2 := keepC hc1 t0_2; have t1_3 := keepC hc1 t0_3; have t1_4 := keepC hc1 t0_4; have t1_5 := keepC hc1 t0_5; have t1_6 := keepC hc1 t0_6; have t1_7 := keepC hc1 t0_7; have t1_8 := keepC hc1 t0_8)
      | (go_at_call 65; with_reducible refine (C2.out _ _ _ _ _ _ _ (u0.below hc1) u1').mono ?_; rintro e w3 ⟨A2, c2, rfl, u2, hc2⟩; have t2_0 := keepC hc2 t1_0; have t2_1 := keepC hc2 t1_1; have t2_2 := keepC hc2 t1_2; have t2_3 := keepC hc2 t1_3; have t2_4 := keepC hc2 t1_4; have t2_5 := keepC hc2 t1_5; have t2_6 := keepC hc2 t1_6; have t2_7 := keepC hc2 t1_7; have t2_8 := keepC hc2 t1_8; obtain ⟨q0, q1, f0, f1, _⟩ := ((bRd.below hc0).below hc1).below hc2))
  all_goals
    have hBz := (from_ (from_ (from_ HB.out hc0) hc1) hc2)
    have hP := (((bRd.below hc0).below hc1).below hc2).put hBz (by omega) (.bool r) (.slice A2 m.length c2)
    have hiv : IsU w3 _ (.slice A2 m.length c2) m := ⟨A2, c2, rfl, u2⟩
    have hu2 := hP.keep (by have := HB.out.size; have := hc0.size; have := hc1.size; have := bRd.lt; omega) hiv
    have Hu := Lib.hid hu2
    have HP := Lib.hid hP
    clear hu2 hP hiv
    go_wp2
    refine bodyPost_ret (res_int rfl _ (w.heap.size + 1) rfl HP.out.c0 HP.out.c1) rfl ?_
    obtain ⟨A', c', e', h'⟩ := Hu.out
    injection e' with e1 e2 e3
    subst e1 e3
    exact ⟨_, _, rfl, h', HP.out.bel⟩

set_option maxRecDepth 100000 in
set_option maxHeartbeats 2000000 in
theorem vscale1 {w : World} {Z1 Z2 : Zone} {x y z : Int} {s t r : Bool} {l k m : List Nat} {A B : Option Addr} {c d g ix : Nat} (e0 : w.cell? ⟨g, 0, none⟩ = some (.bool t)) (e1 : w.cell? ⟨g, 1, none⟩ = some (.slice B k.length d)) (h1 : Nm x s l) (h2 : Nm y t k) (h3 : Nm z r m) (hz : x * y = z) (hl : l.length ≤ 90000000000) (hl2 : k.length ≤ 90000000000) (u1 : U64s w Z1 A c l) (u2 : U64s w Z2 B d k) :
    Calls Tryz.prog 54 #[.int .i64 (ix : Int), .agg #[.bool s, .slice A l.length c], .pointer (some ⟨g, 0, none⟩)] w fun e w' => ∃ Av cv, e = .returned (.agg #[.bool r, .slice Av m.length cv]) ∧ U64s w' (new w.heap.size) Av cv m ∧ Below w.heap.size w w' := by
  obtain ⟨bA, bR, hB0⟩ := boxes2 w (.bool s) (.slice A l.length c) (.bool false) (.slice none 0 0) 42
  obtain ⟨a0, a1, _, _, _⟩ := bA
  have hg : g < w.heap.size := lt_of_cell e0
  replace e0 := keepC hB0 e0
  replace e1 := keepC hB0 e1
  have C0 := Lib.hid (vprod_n h1 h2 h3 hz hl hl2 (u1.below hB0) (u2.below hB0))
  have HB := Lib.hid hB0
  clear h1 h2 h3 hz hl hl2 u1 u2 hB0
  go_enter Tryz.func54, Tryz.ntmps54
  go_wp2_with fail
  refine C0.out.mono ?_
  rintro e w1 ⟨Av, cv, rfl, hv, hc1⟩
  have bR1 := bR.below hc1
  have hP := bR1.put (from_ HB.out hc1) (by omega) (.bool r) (.slice Av m.length cv)
  have hiv : IsU w1 _ (.slice Av m.length cv) m := ⟨Av, cv, rfl, hv⟩
  have hu2 := hP.keep (by simp <;> omega) hiv
  have Hu := Lib.hid hu2
  have HP := Lib.hid hP
  obtain ⟨q0, q1, f0, f1, _⟩ := bR1
  clear hP hu2 hiv hv bR hc1
  go_wp2
  refine bodyPost_ret (res_int rfl _ (w.heap.size + 1) rfl HP.out.c0 HP.out.c1) rfl ?_
  obtain ⟨A', c', e', h'⟩ := Hu.out
  injection e' with e1 e2 e3
  subst e1 e3
  exact ⟨_, _, rfl, h', HP.out.bel⟩

end Go.Proofs.YtajmijnoikkffaaGreat

namespace Go.Proofs.YtajmijnoikkffaaGreat
open Go.RowKit
set_option linter.unusedVariables false
set_option linter.unusedSimpArgs false

/-- Signs and words are the numbers'. -/
def NmV (xs : List Int) (ps : List (Bool × List Nat)) : Prop := ps = xs.map fun x => (decide (x < 0), limbs x.natAbs)
theorem NmV.mk' (xs : List Int) : NmV xs (xs.map fun x => (decide (x < 0), limbs x.natAbs)) := rfl
theorem NmV.len {xs : List Int} {ps : List (Bool × List Nat)} (h : NmV xs ps) : xs.length = ps.length := by subst h; simp
theorem NmV.at {xs : List Int} {ps : List (Bool × List Nat)} (h : NmV xs ps) (j : Nat) (h1 : j < xs.length) (h2 : j < ps.length) : Nm xs[j] ps[j].1 ps[j].2 := by
  subst h
  simp only [List.getElem_map]
  exact Nm.mk' _
theorem NmV.ok {ps : List (Bool × List Nat)} (h : okV ps = true) (hs : ∀ p ∈ ps, Small p.2) : NmV (ps.map fun p => zof p.1 p.2) ps := by
  unfold NmV
  unfold okV at h
  rw [Bool.and_eq_true] at h
  have h2 := List.all_eq_true.1 h.2
  rw [List.map_map]
  refine (List.map_id _).symm.trans (List.map_congr_left fun p hp => ?_)
  have h3 := Nm.ok (h2 p hp) (hs p hp)
  show p = (decide (zof p.1 p.2 < 0), limbs (zof p.1 p.2).natAbs)
  rw [← h3.1, ← h3.2]
theorem NmV.okV {xs : List Int} {ps : List (Bool × List Nat)} (h : NmV xs ps) (hl : ps.length ≤ 64) : okV ps = true := by
  unfold Go.Proofs.YtajmijnoikkffaaGreat.okV
  rw [Bool.and_eq_true]
  refine ⟨decide_eq_true hl, List.all_eq_true.2 fun p hp => ?_⟩
  subst h
  obtain ⟨x, _, rfl⟩ := List.mem_map.1 hp
  exact IsZ.ok x
theorem NmV.of {xs : List Int} {ps : List (Bool × List Nat)} (h : xs.length = ps.length) (hj : ∀ j (h1 : j < xs.length) (h2 : j < ps.length), Nm xs[j] ps[j].1 ps[j].2) : NmV xs ps := by
  unfold NmV
  refine List.ext_getElem (by simp [h]) fun j h1 h2 => ?_
  rw [List.getElem_map]
  have h3 := hj j (by omega) h1
  rw [← h3.1, ← h3.2]

/-- The first k products, together. -/
def dotK (xs ys : List Int) (k : Nat) : Int := ((List.zipWith (· * ·) xs ys).take k).sum
def dotZ (xs ys : List Int) : Int := (List.zipWith (· * ·) xs ys).sum
theorem dotK_zero (xs ys : List Int) : dotK xs ys 0 = 0 := rfl
theorem dotK_succ {xs ys : List Int} {k : Nat} (h1 : k < xs.length) (h2 : k < ys.length) : dotK xs ys (k + 1) = dotK xs ys k + xs[k] * ys[k] := by
  unfold dotK
  rw [List.take_succ_eq_append_getElem (by simp; omega), List.sum_append]
  simp
theorem dotK_all {xs ys : List Int} {k : Nat} (h1 : xs.length ≤ k) : dotK xs ys k = dotZ xs ys := by
  unfold dotK dotZ
  rw [List.take_of_length_le (by rw [List.length_zipWith]; omega)]

theorem given_twoV {w : World} {A B : Option Addr} {c d : Nat} {ps qs : List (Bool × List Nat)} {ty : TypeId} {Z Y : Zone} (ha : VecAt w Z A c ps) (hb : VecAt w Y B d qs) : GivenV (w.alloc (.cells #[.slice A ps.length c, .slice B qs.length d] ty)) w.heap.size [ps, qs] := fun j hj => by
  have hal : Below w.heap.size w (w.alloc (.cells #[.slice A ps.length c, .slice B qs.length d] ty)) := (Below.refl _ _).alloc (Nat.le_refl _) _
  match j, hj with
  | 0, _ => exact ⟨A, c, cell_newest rfl rfl, (ha.below hal).mono (le_old _)⟩
  | 1, _ => exact ⟨B, d, cell_newest rfl rfl, (hb.below hal).mono (le_old _)⟩
theorem given_oneV {w : World} {A : Option Addr} {c : Nat} {ps : List (Bool × List Nat)} {ty : TypeId} {Z : Zone} (ha : VecAt w Z A c ps) : GivenV (w.alloc (.cells #[.slice A ps.length c] ty)) w.heap.size [ps] := fun j hj => by
  have hal : Below w.heap.size w (w.alloc (.cells #[.slice A ps.length c] ty)) := (Below.refl _ _).alloc (Nat.le_refl _) _
  match j, hj with
  | 0, _ => exact ⟨A, c, cell_newest rfl rfl, (ha.below hal).mono (le_old _)⟩

end Go.Proofs.YtajmijnoikkffaaGreat

namespace Go.Proofs.YtajmijnoikkffaaGreat
open Go.RowKit
set_option linter.unusedVariables false
set_option linter.unusedSimpArgs false

theorem cell1 (w : World) (a : Value) (t : TypeId) : (w.alloc (.cells #[a] t)).cell? ⟨w.heap.size, 0, none⟩ = some a := cell_newest rfl rfl

set_option maxRecDepth 100000 in
set_option maxHeartbeats 1000000 in
theorem vscale_err {w : World} {Z Y : Zone} {A B : Option Addr} {c d : Nat} {ps : List (Bool × List Nat)} {t : Bool} {l : List Nat} (ha : VecAt w Z A c ps) (hb : U64s w Y B d l) (hE : ¬ (okV ps = true ∧ okI t l = true)) :
    Calls Tryz.prog 39 #[.slice A ps.length c, .agg #[.bool t, .slice B l.length d]] w fun e w' => e = .returned (.tuple #[.slice none 0 0, .int .i64 8]) ∧ Below w.heap.size w w' := by
  have hal : Below w.heap.size w (w.alloc (.cells #[.bool t, .slice B l.length d] 42)) := (Below.refl _ _).alloc (Nat.le_refl _) _
  have hal2 := hal.alloc hal.size (.cells #[.slice A ps.length c] 23)
  have hg := given_oneV (ty := 23) (ha.below hal)
  have hck := vchecked_any (n := 1) hg rfl (by simp) (by simp)
  rw [errVs_one, show (w.alloc (.cells #[.bool t, .slice B l.length d] 42)).heap.size = w.heap.size + 1 by simp] at hck
  have bN := (Box.new w (.bool t) (.slice B l.length d) 42).alloc (.cells #[.slice A ps.length c] 23)
  obtain ⟨m0, m1, _, _, _⟩ := bN
  have hcb := fun (w1 : World) (h : Below w.heap.size w w1) => wcheck_any (a := .agg #[.bool t, .slice B l.length d]) ⟨_, rfl, B, d, rfl, hb.below h⟩
  cases h1 : okV ps
  · have e1 : errV ps = 8 := by unfold errV; rw [h1]; rfl
    rw [e1] at hck
    have Hck := Lib.hid hck
    have Hal := Lib.hid hal2
    clear hck hg hal hal2 ha hb hE hcb e1 h1
    generalize ps.length = n1 at *
    generalize l.length = n2 at *
    go_enter Tryz.func39, Tryz.ntmps39
    go_wp2_with fail
    refine Hck.out.mono ?_
    rintro e w1 ⟨rfl, hc1⟩
    have HB := Lib.hid (from_ Hal.out hc1)
    go_wp2
    go_ret2
    exact ⟨rfl, HB.out⟩
  · have e1 : errV ps = 0 := by unfold errV; rw [h1]; rfl
    have h2 : okI t l = false := by
      cases h : okI t l
      · rfl
      · exact absurd ⟨h1, h⟩ hE
    have e2 : errC t l = 8 := by unfold errC; rw [h2]; rfl
    rw [e1] at hck
    rw [e2] at hcb
    have Hck := Lib.hid hck
    have Hal := Lib.hid hal2
    have Hcb := Lib.hid hcb
    clear hck hg hal hal2 ha hb hE hcb e1 h1 e2 h2
    generalize ps.length = n1 at *
    generalize l.length = n2 at *
    go_enter Tryz.func39, Tryz.ntmps39
    go_wp2_with fail
    refine Hck.out.mono ?_
    rintro e w1 ⟨rfl, hc1⟩
    have HB := Lib.hid (from_ Hal.out hc1)
    replace m0 := keepC hc1 m0
    replace m1 := keepC hc1 m1
    go_wp2_with fail
    refine (Hcb.out _ HB.out).mono ?_
    rintro e w2 ⟨rfl, hc2⟩
    have HB2 := Lib.hid (from_ HB.out hc2)
    go_wp2
    go_ret2
    exact ⟨rfl, HB2.out⟩

set_option maxRecDepth 100000 in
set_option maxHeartbeats 1000000 in
theorem vscale_n {w : World} {Z Y : Zone} {A B : Option Addr} {c d K : Nat} {ps rs : List (Bool × List Nat)} {xs : List Int} {y : Int} {t : Bool} {l : List Nat} (ha : VecAt w Z A c ps) (hb : U64s w Y B d l) (hx : NmV xs ps) (hy : Nm y t l) (hl : ps.length ≤ 64) (hK1 : ∀ p ∈ ps, p.2.length ≤ K) (hK2 : l.length ≤ K) (hK : K ≤ 80000000000) (h3 : NmV (xs.map fun x => x * y) rs) :
    Calls Tryz.prog 39 #[.slice A ps.length c, .agg #[.bool t, .slice B l.length d]] w fun e w' => ∃ Av cv, e = .returned (.tuple #[.slice Av rs.length cv, .int .i64 0]) ∧ VecAt w' (new w.heap.size) Av cv rs ∧ Below w.heap.size w w' := by
  have hal : Below w.heap.size w (w.alloc (.cells #[.bool t, .slice B l.length d] 42)) := (Below.refl _ _).alloc (Nat.le_refl _) _
  have hal2 := hal.alloc hal.size (.cells #[.slice A ps.length c] 23)
  have hg := given_oneV (ty := 23) (ha.below hal)
  have hck := vchecked_any (n := 1) hg rfl (by simp) (by simp)
  have e1 : errV ps = 0 := by unfold errV; rw [hx.okV hl]; rfl
  rw [errVs_one, e1, show (w.alloc (.cells #[.bool t, .slice B l.length d] 42)).heap.size = w.heap.size + 1 by simp] at hck
  have bN := (Box.new w (.bool t) (.slice B l.length d) 42).alloc (.cells #[.slice A ps.length c] 23)
  obtain ⟨m0, m1, _, _, _⟩ := bN
  have hcb := fun (w1 : World) (h : Below w.heap.size w w1) => check_n hy (hb.below h)
  have hrl : rs.length = ps.length := by rw [← h3.len, List.length_map, hx.len]
  have hF : ∀ (w1 : World), Below w.heap.size w w1 → w1.cell? ⟨w.heap.size, 0, none⟩ = some (.bool t) → w1.cell? ⟨w.heap.size, 1, none⟩ = some (.slice B l.length d) → Calls Tryz.prog 30 #[.slice A ps.length c, .func (.func 54) #[] #[.pointer (some ⟨w.heap.size, 0, none⟩)]] w1 fun e w' => ∃ Av cv, e = .returned (.slice Av rs.length cv) ∧ VecAt w' (new w1.heap.size) Av cv rs ∧ Below w1.heap.size w1 w' := fun w1 hb1 hp0 hp1 => by
    refine veach_scale (ha.below hb1) hrl (by omega) fun j hj hj' w2 B' d' hb2 hu => ?_
    have h1 := hx.at j (by rw [hx.len]; exact hj) hj
    have h4 := h3.at j (by rw [h3.len]; exact hj') hj'
    rw [List.getElem_map] at h4
    have q1 := hK1 ps[j] (List.getElem_mem hj)
    exact vscale1 (keepC hb2 hp0) (keepC hb2 hp1) h1 hy h4 rfl (by omega) (by omega) hu ((hb.below hb1).below hb2)
  have Hck := Lib.hid hck
  have Hal := Lib.hid hal2
  have HF := Lib.hid hF
  have Hcb := Lib.hid hcb
  clear hck hg hal hal2 ha hb e1 hF hx hy h3 hK1 hcb
  rw [hrl] at HF ⊢
  clear hrl
  generalize ps.length = n1 at *
  generalize l.length = n2 at *
  go_enter Tryz.func39, Tryz.ntmps39
  go_wp2_with fail
  refine Hck.out.mono ?_
  rintro e w1 ⟨rfl, hc1⟩
  have HB := Lib.hid (from_ Hal.out hc1)
  replace m0 := keepC hc1 m0
  replace m1 := keepC hc1 m1
  go_wp2_with fail
  refine (Hcb.out _ HB.out).mono ?_
  rintro e w2 ⟨rfl, hc2⟩
  have HB2 := Lib.hid (from_ HB.out hc2)
  replace m0 := keepC hc2 m0
  replace m1 := keepC hc2 m1
  go_wp2_with fail
  refine (HF.out _ HB2.out m0 m1).mono ?_
  rintro e w3 ⟨Av, cv, rfl, hv, hc3⟩
  have HB3 := Lib.hid (from_ HB2.out hc3)
  have HV := Lib.hid (hv.mono (Y := new w.heap.size) (new_le (by have := HB2.out.size; omega)))
  clear hv
  go_wp2
  go_ret2
  exact ⟨_, _, rfl, HV.out, HB3.out⟩

/-- The error of Mix. -/
def errM (sm : Bool) (lm : List Nat) (sn : Bool) (ln : List Nat) (ps qs : List (Bool × List Nat)) : Int := if okI sm lm = true ∧ okI sn ln = true then errVs [ps, qs] else 8

set_option maxRecDepth 100000 in
set_option maxHeartbeats 2000000 in
theorem vmix_err {w : World} {Z Y Z3 Z4 : Zone} {A B Am An : Option Addr} {c d cm cn : Nat} {ps qs : List (Bool × List Nat)} {sm sn : Bool} {lm ln : List Nat} {E : Int} (ha : VecAt w Z A c ps) (hb : VecAt w Y B d qs) (um : U64s w Z3 Am cm lm) (un : U64s w Z4 An cn ln) (hE : errM sm lm sn ln ps qs = E) (hE2 : E = 8 ∨ E = 70) :
    Calls Tryz.prog 51 #[.agg #[.bool sm, .slice Am lm.length cm], .slice A ps.length c, .agg #[.bool sn, .slice An ln.length cn], .slice B qs.length d] w fun e w' => e = .returned (.tuple #[.slice none 0 0, .int .i64 E]) ∧ Below w.heap.size w w' := by
  have hal1 : Below w.heap.size w (w.alloc (.cells #[.bool sm, .slice Am lm.length cm] 42)) := (Below.refl _ _).alloc (Nat.le_refl _) _
  have hal2 := hal1.alloc hal1.size (.cells #[.bool sn, .slice An ln.length cn] 42)
  have hal := hal2.alloc hal2.size (.cells #[.slice B qs.length d] 23)
  have hB4 := hal.alloc hal.size (.cells #[.slice A ps.length c, .slice B qs.length d] 23)
  have bM := ((Box.new w (.bool sm) (.slice Am lm.length cm) 42).alloc (.cells #[.bool sn, .slice An ln.length cn] 42)).alloc (.cells #[.slice B qs.length d] 23)
  have bN := (Box.new (w.alloc (.cells #[.bool sm, .slice Am lm.length cm] 42)) (.bool sn) (.slice An ln.length cn) 42).alloc (.cells #[.slice B qs.length d] 23)
  have p0 := cell1 ((w.alloc (.cells #[.bool sm, .slice Am lm.length cm] 42)).alloc (.cells #[.bool sn, .slice An ln.length cn] 42)) (.slice B qs.length d) 23
  rw [show (w.alloc (.cells #[.bool sm, .slice Am lm.length cm] 42)).heap.size = w.heap.size + 1 by simp] at bN
  rw [show ((w.alloc (.cells #[.bool sm, .slice Am lm.length cm] 42)).alloc (.cells #[.bool sn, .slice An ln.length cn] 42)).heap.size = w.heap.size + 1 + 1 by simp] at p0
  have hcm := fun (w1 : World) (h : Below w.heap.size w w1) => wcheck_any (a := .agg #[.bool sm, .slice Am lm.length cm]) ⟨_, rfl, Am, cm, rfl, um.below h⟩
  have hcn := fun (w1 : World) (h : Below w.heap.size w w1) => wcheck_any (a := .agg #[.bool sn, .slice An ln.length cn]) ⟨_, rfl, An, cn, rfl, un.below h⟩
  have hck := fun (w1 : World) (h : Below w.heap.size w w1) => vchecked_any (n := 2) (given_twoV (ty := 23) (ha.below h) (hb.below h)) rfl (by simp) (by simp)
  obtain ⟨m0, m1, _, _, _⟩ := bM
  obtain ⟨n0, n1, _, _, _⟩ := bN
  unfold errM at hE
  cases h1 : okI sm lm
  · rw [if_neg (by rw [h1]; simp)] at hE
    subst hE
    have e1 : errC sm lm = 8 := by unfold errC; rw [h1]; rfl
    rw [e1] at hcm
    have Hcm := Lib.hid hcm
    have Hcn := Lib.hid hcn
    have Hck := Lib.hid hck
    have Hal := Lib.hid hal
    clear hcm hcn hck hal hal1 hal2 ha hb um un e1 h1 hB4
    generalize ps.length = np at *
    generalize qs.length = nq at *
    generalize lm.length = nm at *
    generalize ln.length = nn at *
    go_enter Tryz.func51, Tryz.ntmps51
    go_wp2_with fail
    refine (Hcm.out _ Hal.out).mono ?_
    rintro e w1 ⟨rfl, hc1⟩
    have HB := Lib.hid (from_ Hal.out hc1)
    replace n0 := keepC hc1 n0
    replace n1 := keepC hc1 n1
    replace p0 := keepC hc1 p0
    go_wp2
    go_ret2
    exact ⟨rfl, HB.out⟩
  · cases h2 : okI sn ln
    · rw [if_neg (by rw [h2]; simp)] at hE
      subst hE
      have e1 : errC sm lm = 0 := by unfold errC; rw [h1]; rfl
      have e2 : errC sn ln = 8 := by unfold errC; rw [h2]; rfl
      rw [e1] at hcm
      rw [e2] at hcn
      have Hcm := Lib.hid hcm
      have Hcn := Lib.hid hcn
      have Hck := Lib.hid hck
      have Hal := Lib.hid hal
      clear hcm hcn hck hal hal1 hal2 ha hb um un e1 e2 h2 h1 hB4
      generalize ps.length = np at *
      generalize qs.length = nq at *
      generalize lm.length = nm at *
      generalize ln.length = nn at *
      go_enter Tryz.func51, Tryz.ntmps51
      go_wp2_with fail
      refine (Hcm.out _ Hal.out).mono ?_
      rintro e w1 ⟨rfl, hc1⟩
      have HB := Lib.hid (from_ Hal.out hc1)
      replace n0 := keepC hc1 n0
      replace n1 := keepC hc1 n1
      replace p0 := keepC hc1 p0
      go_wp2_with fail
      refine (Hcn.out _ HB.out).mono ?_
      rintro e w2 ⟨rfl, hc2⟩
      have HB2 := Lib.hid (from_ HB.out hc2)
      replace p0 := keepC hc2 p0
      go_wp2
      go_ret2
      exact ⟨rfl, HB2.out⟩
    · rw [if_pos ⟨h1, h2⟩] at hE
      rw [hE] at hck
      have e1 : errC sm lm = 0 := by unfold errC; rw [h1]; rfl
      have e2 : errC sn ln = 0 := by unfold errC; rw [h2]; rfl
      rw [e1] at hcm
      rw [e2] at hcn
      have Hcm := Lib.hid hcm
      have Hcn := Lib.hid hcn
      have Hck := Lib.hid hck
      have Hal := Lib.hid hal
      clear hcm hcn hck hal hal1 hal2 ha hb um un e1 e2 h2 h1 hB4
      generalize ps.length = np at *
      generalize qs.length = nq at *
      generalize lm.length = nm at *
      generalize ln.length = nn at *
      rcases hE2 with rfl | rfl
      all_goals
        go_enter Tryz.func51, Tryz.ntmps51
        go_wp2_with fail
        refine (Hcm.out _ Hal.out).mono ?_
        rintro e w1 ⟨rfl, hc1⟩
        have HB := Lib.hid (from_ Hal.out hc1)
        replace n0 := keepC hc1 n0
        replace n1 := keepC hc1 n1
        replace p0 := keepC hc1 p0
        go_wp2_with fail
        refine (Hcn.out _ HB.out).mono ?_
        rintro e w2 ⟨rfl, hc2⟩
        have HB2 := Lib.hid (from_ HB.out hc2)
        replace p0 := keepC hc2 p0
        go_wp2_with fail
        refine (Hck.out _ HB2.out).mono ?_
        rintro e w3 ⟨rfl, hc3⟩
        have HB3 := Lib.hid (from_ (HB2.out.alloc HB2.out.size (.cells #[.slice A np c, .slice B nq d] 23)) hc3)
        go_wp2
        go_ret2
        exact ⟨rfl, HB3.out⟩

set_option maxRecDepth 100000 in
set_option maxHeartbeats 2000000 in
theorem vmix_n {w : World} {Z Y Z3 Z4 : Zone} {A B Am An : Option Addr} {c d cm cn K : Nat} {ps qs rs : List (Bool × List Nat)} {sm sn : Bool} {lm ln : List Nat} {xs ys : List Int} {zm zn : Int} (ha : VecAt w Z A c ps) (hb : VecAt w Y B d qs) (um : U64s w Z3 Am cm lm) (un : U64s w Z4 An cn ln) (hx : NmV xs ps) (hy : NmV ys qs) (hm : Nm zm sm lm) (hn : Nm zn sn ln) (hlen : ps.length = qs.length) (hl : ps.length ≤ 64) (hK1 : ∀ p ∈ ps, p.2.length ≤ K) (hK2 : ∀ p ∈ qs, p.2.length ≤ K) (hK3 : lm.length ≤ K) (hK4 : ln.length ≤ K) (hK : K ≤ 40000000000) (h3 : NmV (List.zipWith (fun x y => zm * x + zn * y) xs ys) rs) :
    Calls Tryz.prog 51 #[.agg #[.bool sm, .slice Am lm.length cm], .slice A ps.length c, .agg #[.bool sn, .slice An ln.length cn], .slice B qs.length d] w fun e w' => ∃ Av cv, e = .returned (.tuple #[.slice Av rs.length cv, .int .i64 0]) ∧ VecAt w' (new w.heap.size) Av cv rs ∧ Below w.heap.size w w' := by
  have hal1 : Below w.heap.size w (w.alloc (.cells #[.bool sm, .slice Am lm.length cm] 42)) := (Below.refl _ _).alloc (Nat.le_refl _) _
  have hal2 := hal1.alloc hal1.size (.cells #[.bool sn, .slice An ln.length cn] 42)
  have hal := hal2.alloc hal2.size (.cells #[.slice B qs.length d] 23)
  have hB4 := hal.alloc hal.size (.cells #[.slice A ps.length c, .slice B qs.length d] 23)
  have bM := ((Box.new w (.bool sm) (.slice Am lm.length cm) 42).alloc (.cells #[.bool sn, .slice An ln.length cn] 42)).alloc (.cells #[.slice B qs.length d] 23)
  have bN := (Box.new (w.alloc (.cells #[.bool sm, .slice Am lm.length cm] 42)) (.bool sn) (.slice An ln.length cn) 42).alloc (.cells #[.slice B qs.length d] 23)
  have p0 := cell1 ((w.alloc (.cells #[.bool sm, .slice Am lm.length cm] 42)).alloc (.cells #[.bool sn, .slice An ln.length cn] 42)) (.slice B qs.length d) 23
  rw [show (w.alloc (.cells #[.bool sm, .slice Am lm.length cm] 42)).heap.size = w.heap.size + 1 by simp] at bN
  rw [show ((w.alloc (.cells #[.bool sm, .slice Am lm.length cm] 42)).alloc (.cells #[.bool sn, .slice An ln.length cn] 42)).heap.size = w.heap.size + 1 + 1 by simp] at p0
  have hcm := fun (w1 : World) (h : Below w.heap.size w w1) => wcheck_any (a := .agg #[.bool sm, .slice Am lm.length cm]) ⟨_, rfl, Am, cm, rfl, um.below h⟩
  have hcn := fun (w1 : World) (h : Below w.heap.size w w1) => wcheck_any (a := .agg #[.bool sn, .slice An ln.length cn]) ⟨_, rfl, An, cn, rfl, un.below h⟩
  have hck := fun (w1 : World) (h : Below w.heap.size w w1) => vchecked_any (n := 2) (given_twoV (ty := 23) (ha.below h) (hb.below h)) rfl (by simp) (by simp)
  obtain ⟨m0, m1, _, _, _⟩ := bM
  obtain ⟨n0, n1, _, _, _⟩ := bN
  have e1 : errC sm lm = 0 := by unfold errC; rw [if_pos (by rw [hm.1, hm.2]; exact IsZ.ok zm)]
  have e2 : errC sn ln = 0 := by unfold errC; rw [if_pos (by rw [hn.1, hn.2]; exact IsZ.ok zn)]
  have e3 : errVs [ps, qs] = 0 := by
    rw [errVs_two, if_pos ⟨hx.okV hl, hy.okV (by omega)⟩, if_pos hlen]
  rw [e1] at hcm
  rw [e2] at hcn
  rw [e3] at hck
  have hrl : rs.length = ps.length := by rw [← h3.len, List.length_zipWith, hx.len, hy.len]; omega
  have hF : ∀ (w1 : World), Below w.heap.size w w1 → w1.cell? ⟨w.heap.size, 0, none⟩ = some (.bool sm) → w1.cell? ⟨w.heap.size, 1, none⟩ = some (.slice Am lm.length cm) → w1.cell? ⟨w.heap.size + 1, 0, none⟩ = some (.bool sn) → w1.cell? ⟨w.heap.size + 1, 1, none⟩ = some (.slice An ln.length cn) → w1.cell? ⟨w.heap.size + 1 + 1, 0, none⟩ = some (.slice B qs.length d) →
      Calls Tryz.prog 30 #[.slice A ps.length c, .func (.func 64) #[] #[.pointer (some ⟨w.heap.size, 0, none⟩), .pointer (some ⟨w.heap.size + 1, 0, none⟩), .pointer (some ⟨w.heap.size + 1 + 1, 0, none⟩)]] w1 fun e w' => ∃ Av cv, e = .returned (.slice Av rs.length cv) ∧ VecAt w' (new w1.heap.size) Av cv rs ∧ Below w1.heap.size w1 w' := fun w1 hb1 q0 q1 q2 q3 q4 => by
    refine veach_mix (ha.below hb1) hrl (by omega) fun j hj hj' w2 B' d' hb2 hu => ?_
    have hjq : j < qs.length := by omega
    obtain ⟨b, o, B2, d2, rfl, _, c0, c1, hu2⟩ := ((hb.below hb1).below hb2).at hjq
    have h1 := hx.at j (by rw [hx.len]; exact hj) hj
    have h2 := hy.at j (by rw [hy.len]; exact hjq) hjq
    have h4 := h3.at j (by rw [h3.len]; exact hj') hj'
    rw [List.getElem_zipWith] at h4
    have r1 := hK1 ps[j] (List.getElem_mem hj)
    have r2 := hK2 qs[j] (List.getElem_mem hjq)
    exact vmix1 (keepC hb2 q0) (keepC hb2 q1) (keepC hb2 q2) (keepC hb2 q3) (keepC hb2 q4) hjq c0 c1 h1 h2 hm hn (Nm.mk' _) (Nm.mk' _) h4 rfl rfl rfl (by omega) (by omega) (by omega) (by omega) (by omega) hu hu2 ((um.below hb1).below hb2) ((un.below hb1).below hb2)
  have Hcm := Lib.hid hcm
  have Hcn := Lib.hid hcn
  have Hck := Lib.hid hck
  have Hal := Lib.hid hal
  have HF := Lib.hid hF
  have hl1 := ha.len
  clear hcm hcn hck hal hal1 hal2 ha hb um un e1 e2 e3 hB4 hF hx hy hm hn h3 hK1 hK2 hK3 hK4 hlen
  rw [hrl] at HF ⊢
  clear hrl
  generalize ps.length = np at *
  generalize qs.length = nq at *
  generalize lm.length = nm at *
  generalize ln.length = nn at *
  go_enter Tryz.func51, Tryz.ntmps51
  go_wp2_with fail
  refine (Hcm.out _ Hal.out).mono ?_
  rintro e w1 ⟨rfl, hc1⟩
  have HB := Lib.hid (from_ Hal.out hc1)
  replace m0 := keepC hc1 m0
  replace m1 := keepC hc1 m1
  replace n0 := keepC hc1 n0
  replace n1 := keepC hc1 n1
  replace p0 := keepC hc1 p0
  go_wp2_with fail
  refine (Hcn.out _ HB.out).mono ?_
  rintro e w2 ⟨rfl, hc2⟩
  have HB2 := Lib.hid (from_ HB.out hc2)
  replace m0 := keepC hc2 m0
  replace m1 := keepC hc2 m1
  replace n0 := keepC hc2 n0
  replace n1 := keepC hc2 n1
  replace p0 := keepC hc2 p0
  have hala : Below w2.heap.size w2 (w2.alloc (.cells #[.slice A np c, .slice B nq d] 23)) := (Below.refl _ _).alloc (Nat.le_refl _) _
  have m0' := keepC hala m0
  have m1' := keepC hala m1
  have n0' := keepC hala n0
  have n1' := keepC hala n1
  have p0' := keepC hala p0
  have Hala := Lib.hid hala
  clear hala
  go_wp2_with fail
  refine (Hck.out _ HB2.out).mono ?_
  rintro e w3 ⟨rfl, hc3⟩
  have HB3 := Lib.hid (from_ (from_ HB2.out Hala.out) hc3)
  replace m0' := keepC hc3 m0'
  replace m1' := keepC hc3 m1'
  replace n0' := keepC hc3 n0'
  replace n1' := keepC hc3 n1'
  replace p0' := keepC hc3 p0'
  go_wp2_with fail
  refine (HF.out _ HB3.out m0' m1' n0' n1' p0').mono ?_
  rintro e w4 ⟨Av, cv, rfl, hv, hc4⟩
  have HB4 := Lib.hid (from_ HB3.out hc4)
  have HV := Lib.hid (hv.mono (Y := new w.heap.size) (new_le (by have := HB3.out.size; omega)))
  clear hv
  go_wp2
  go_ret2
  exact ⟨_, _, rfl, HV.out, HB4.out⟩

end Go.Proofs.YtajmijnoikkffaaGreat

namespace Go.Proofs.YtajmijnoikkffaaGreat
open Go.RowKit
set_option linter.unusedVariables false
set_option linter.unusedSimpArgs false

theorem IsVs.vec {w : World} {v : Value} {zs : List Int} {ps : List (Bool × List Nat)} (h : IsVs w v zs) (hp : NmV zs ps) : ∃ A c, v = .slice A ps.length c ∧ VecAt w old A c ps := by
  obtain ⟨A, c, rfl, h1, h2, h3⟩ := h
  have hl := hp.len
  refine ⟨A, c, by rw [hl], by omega, h2, fun h0 => ?_⟩
  obtain ⟨g, rfl, hg, hc⟩ := h3 (by omega)
  refine ⟨g, 0, rfl, trivial, hg, fun h => h.elim, fun j hj => ?_⟩
  obtain ⟨u, c0, c1, hu⟩ := hc j (by omega)
  obtain ⟨B, d, rfl, hu⟩ := hu
  obtain ⟨e1, e2⟩ := hp.at j (by omega) hj
  refine ⟨B, d, ?_, ?_, ?_⟩
  · rw [Nat.zero_add, e1]; exact c0
  · rw [Nat.zero_add, e2]; exact c1
  · rw [e2]; exact hu

def greatV (ps : List (Bool × List Nat)) (M K : Nat) : Bool := decide (M < ps.length) || ps.any fun p => decide (K < p.2.length)

theorem vec_ext {ps qs : List (Bool × List Nat)} (h : ps.length = qs.length) (hj : ∀ j (h1 : j < ps.length) (h2 : j < qs.length), ps[j].1 = qs[j].1 ∧ ps[j].2 = qs[j].2) : ps = qs :=
  List.ext_getElem h fun j h1 h2 => Prod.ext (hj j h1 h2).1 (hj j h1 h2).2

set_option maxRecDepth 100000 in
set_option maxHeartbeats 2000000 in
theorem same7_all {w : World} {Z Y : Zone} {A B : Option Addr} {ca cb : Nat} {ps qs : List (Bool × List Nat)} (ha : VecAt w Z A ca ps) (hb : VecAt w Y B cb qs) :
    Calls Tryz.prog 10 #[.slice A ps.length ca, .slice B qs.length cb] w fun e w' => e = .returned (.bool (decide (ps = qs))) ∧ Below w.heap.size w w' := by
  by_cases hl : ps.length = qs.length
  · have hself : ((ps.length : Int) != (ps.length : Int)) = false := bne_self_eq_false _
    have hla := ha.len
    have Hl := Lib.hid hl
    rw [← hl]
    clear hl
    go_enter Tryz.func10, Tryz.ntmps10
    go_wp2
    go_loopw [5] (fun i wr => ∃ k : Nat, k ≤ ps.length ∧ i = .int .i64 (k : Int) ∧ Below w.heap.size w wr ∧ Hid (∀ j (h1 : j < ps.length) (h2 : j < qs.length), j < k → ps[j].1 = qs[j].1 ∧ ps[j].2 = qs[j].2)) (fun i _ => ps.length - (intOf i).toNat)
    case atStart => exact ⟨0, Nat.zero_le _, rfl, Below.refl _ _, fun j h1 h2 h => absurd h (by omega)⟩
    case round =>
      obtain ⟨k, hk, rfl, hbel, hz⟩ := hrel
      by_cases hlt : k < ps.length
      · have hltq : k < qs.length := by have := Hl.out; omega
        obtain ⟨b1, o1, B1, d1, rfl, hbb1, p0, p1, hu1⟩ := (ha.below hbel).at hlt
        obtain ⟨b2, o2, B2, d2, rfl, hbb2, r0, r1, hu2⟩ := (hb.below hbel).at hltq
        have i1 : IsI wr.drew Z (.agg #[.bool ps[k].1, .slice B1 ps[k].2.length d1]) ps[k].1 ps[k].2 := IsI.below ⟨_, rfl, B1, d1, rfl, hu1⟩ ((Below.refl _ wr).drew)
        have i2 : IsI wr.drew Y (.agg #[.bool qs[k].1, .slice B2 qs[k].2.length d2]) qs[k].1 qs[k].2 := IsI.below ⟨_, rfl, B2, d2, rfl, hu2⟩ ((Below.refl _ wr).drew)
        have hsm := same5_any i1 i2
        have hcase : decide (ps[k].1 = qs[k].1 ∧ ps[k].2 = qs[k].2) = true ∨ decide (ps[k].1 = qs[k].1 ∧ ps[k].2 = qs[k].2) = false := by cases decide (ps[k].1 = qs[k].1 ∧ ps[k].2 = qs[k].2) <;> simp
        have Hall : Hid (decide (ps[k].1 = qs[k].1 ∧ ps[k].2 = qs[k].2) = true → ∀ j (h1 : j < ps.length) (h2 : j < qs.length), j < k + 1 → ps[j].1 = qs[j].1 ∧ ps[j].2 = qs[j].2) := fun hx j h1 h2 hjk => by
          rcases Nat.lt_or_ge j k with h3 | h3
          · exact hz.out j h1 h2 h3
          · obtain rfl : j = k := by omega
            exact of_decide_eq_true hx
        have Hnone : Hid (decide (ps[k].1 = qs[k].1 ∧ ps[k].2 = qs[k].2) = false → decide (ps = qs) = false) := fun hx => by
          refine decide_eq_false fun h => ?_
          subst h
          simp at hx
        have hbd := hbel.drew
        clear i1 i2 hu1 hu2 hz
        generalize decide (ps[k].1 = qs[k].1 ∧ ps[k].2 = qs[k].2) = R at *
        generalize ps[k].1 = s at *
        generalize ps[k].2.length = l at *
        generalize qs[k].1 = t at *
        generalize qs[k].2.length = l2 at *
        rcases hcase with rfl | rfl
        · have Hsm := Lib.hid hsm
          clear hsm
          go_wp2
          go_still_tail 8, (by kernel_rfl)
          change wpList _ _ _ _ _ wr.drew
          go_wp2_with fail
          refine Hsm.out.mono ?_
          rintro e w1 ⟨rfl, hb1⟩
          have hb2 := from_ hbd hb1
          go_wp2
          go_roundw
          case rel => exact ⟨k + 1, by omega, by go_num, hb2, Lib.hid (Hall.out (by trivial))⟩
          case measure => simp [intOf]; omega
        · have Hsm := Lib.hid hsm
          clear hsm
          go_wp2
          go_still_tail 8, (by kernel_rfl)
          change wpList _ _ _ _ _ wr.drew
          go_wp2_with fail
          refine Hsm.out.mono ?_
          rintro e w1 ⟨rfl, hb1⟩
          have hb2 := from_ hbd hb1
          go_wp2
          go_ret
          rw [Hnone.out (by trivial)]
          exact ⟨rfl, hb2⟩
      · obtain rfl : k = ps.length := by omega
        have he : decide (ps = qs) = true := decide_eq_true (vec_ext Hl.out fun j h1 h2 => hz.out j h1 h2 h1)
        have He := Lib.hid he
        clear he hz
        go_wp2
        go_ret
        rw [He.out]
        exact ⟨rfl, hbel⟩
  · have hd : ((ps.length : Int) != (qs.length : Int)) = true := bne_iff_ne.2 (by omega)
    have hd2 : decide (ps = qs) = false := decide_eq_false fun h => hl (by rw [h])
    have hla := ha.len
    have hlb := hb.len
    have hl2 := hl
    rw [hd2]
    clear hd2 ha hb
    generalize ps.length = L at *
    generalize qs.length = M at *
    go_enter Tryz.func10, Tryz.ntmps10
    go_wp2
    go_ret
    exact ⟨rfl, Below.refl _ _⟩

end Go.Proofs.YtajmijnoikkffaaGreat

namespace Go.Proofs.YtajmijnoikkffaaGreat
open Go.RowKit
set_option linter.unusedVariables false
set_option linter.unusedSimpArgs false

theorem ints3 (w : World) (x y z : Int) (t : TypeId) (hx : -9223372036854775808 ≤ x ∧ x ≤ 9223372036854775807) (hy : -9223372036854775808 ≤ y ∧ y ≤ 9223372036854775807) (hz : -9223372036854775808 ≤ z ∧ z ≤ 9223372036854775807) :
    IsInts (w.alloc (.cells #[.int .i64 x, .int .i64 y, .int .i64 z] t)) old (.slice (some ⟨w.heap.size, 0, none⟩) 3 3) [x, y, z] := by
  refine ⟨_, 3, rfl, by simp, by omega, fun u hu => ?_, fun _ => ⟨w.heap.size, 0, rfl, by simp, fun j hj => ?_⟩⟩
  · simp at hu
    rcases hu with rfl | rfl | rfl
    · exact hx
    · exact hy
    · exact hz
  · match j, hj with
    | 0, _ => exact cell_newest rfl rfl
    | 1, _ => exact cell_newest rfl rfl
    | 2, _ => exact cell_newest rfl rfl
theorem ints2 (w : World) (x y : Int) (t : TypeId) (hx : -9223372036854775808 ≤ x ∧ x ≤ 9223372036854775807) (hy : -9223372036854775808 ≤ y ∧ y ≤ 9223372036854775807) :
    IsInts (w.alloc (.cells #[.int .i64 x, .int .i64 y] t)) old (.slice (some ⟨w.heap.size, 0, none⟩) 2 2) [x, y] := by
  refine ⟨_, 2, rfl, by simp, by omega, fun u hu => ?_, fun _ => ⟨w.heap.size, 0, rfl, by simp, fun j hj => ?_⟩⟩
  · simp at hu
    rcases hu with rfl | rfl
    · exact hx
    · exact hy
  · match j, hj with
    | 0, _ => exact cell_newest rfl rfl
    | 1, _ => exact cell_newest rfl rfl

theorem vof_n {w : World} {g n : Nat} {zs : List Int} {ps : List (Bool × List Nat)} (h : IsInts w old (.slice (some ⟨g, 0, none⟩) n n) zs) (hp : NmV zs ps) (hl : zs.length ≤ 1000) :
    Calls Tryz.prog 4 #[.slice (some ⟨g, 0, none⟩) n n] w fun e w' => ∃ A c, e = .returned (.slice A ps.length c) ∧ VecAt w' old A c ps ∧ Below w.heap.size w w' := by
  refine (vof_any h hl).mono ?_
  rintro e w' ⟨v, rfl, hv, hb⟩
  obtain ⟨A, c, rfl, h1⟩ := hv.vec hp
  exact ⟨A, c, rfl, h1, hb⟩
theorem wof_n {w : World} {n : Int} {s : Bool} {l : List Nat} (h : Nm n s l) (hn : -9223372036854775808 ≤ n ∧ n ≤ 9223372036854775807) :
    Calls Tryz.prog 12 #[.int .i64 n] w fun e w' => ∃ A c, e = .returned (.agg #[.bool s, .slice A l.length c]) ∧ U64s w' (new w.heap.size) A c l ∧ Below w.heap.size w w' := by
  refine (wof_any hn).mono ?_
  rintro e w' ⟨v, rfl, hv, hb⟩
  obtain ⟨A, c, rfl, h1⟩ := h.of hv
  exact ⟨A, c, rfl, h1, hb⟩
theorem same7_n {w : World} {Z Y : Zone} {A B : Option Addr} {ca cb : Nat} {ps : List (Bool × List Nat)} (ha : VecAt w Z A ca ps) (hb : VecAt w Y B cb ps) :
    Calls Tryz.prog 10 #[.slice A ps.length ca, .slice B ps.length cb] w fun e w' => e = .returned (.bool true) ∧ Below w.heap.size w w' :=
  (same7_all ha hb).mono fun e w' h => by simpa using h

theorem nmV_small {zs : List Int} {ps : List (Bool × List Nat)} (h : NmV zs ps) (hz : ∀ z ∈ zs, z.natAbs < 18446744073709551616) : ∀ p ∈ ps, p.2.length ≤ 1 := fun p hp => by
  subst h
  obtain ⟨z, hz1, rfl⟩ := List.mem_map.1 hp
  exact len_limbs_le (by simpa using hz z hz1)

end Go.Proofs.YtajmijnoikkffaaGreat

namespace Go.Proofs.YtajmijnoikkffaaGreat
open Go.RowKit
set_option linter.unusedVariables false
set_option linter.unusedSimpArgs false

theorem sgnV_pos {x : Int} (h : 0 < x) : sgn x = 1 := by unfold sgn; rw [if_neg (by omega), if_neg (by omega)]
theorem sgnV_neg {x : Int} (h : x < 0) : sgn x = -1 := by unfold sgn; rw [if_neg (by omega), if_pos h]
theorem sgnV_zero : sgn 0 = 0 := by unfold sgn; rw [if_pos rfl]
theorem sgnV_nought {x : Int} : sgn x = 0 ↔ x = 0 := by
  constructor
  · intro h
    rcases Int.lt_trichotomy x 0 with h1 | h1 | h1
    · rw [sgnV_neg h1] at h; cases h
    · exact h1
    · rw [sgnV_pos h1] at h; cases h
  · rintro rfl; exact sgnV_zero
theorem sgnV_turn (x y : Int) : sgn (y - x) = -sgn (x - y) := by
  rcases Int.lt_trichotomy (x - y) 0 with h | h | h
  · rw [sgnV_neg h, sgnV_pos (by omega)]; rfl
  · rw [h, show y - x = 0 by omega, sgnV_zero]; rfl
  · rw [sgnV_pos h, sgnV_neg (by omega)]

/-- Which row is ahead. -/
def cmpV : List Int → List Int → Int
  | x :: xs, y :: ys => if sgn (x - y) = 0 then cmpV xs ys else sgn (x - y)
  | _, _ => 0

theorem cmpV_turn : ∀ (xs ys : List Int), xs.length = ys.length → cmpV ys xs = -cmpV xs ys := by
  intro xs
  induction xs with
  | nil => intro ys h; cases ys with
    | nil => rfl
    | cons y ys => simp at h
  | cons x xs ih =>
    intro ys h
    cases ys with
    | nil => simp at h
    | cons y ys =>
      have h2 := ih ys (by simpa using h)
      have h3 := sgnV_turn x y
      simp only [cmpV]
      by_cases h0 : sgn (x - y) = 0
      · rw [if_pos h0, if_pos (by rw [h3, h0]; rfl), h2]
      · rw [if_neg h0, if_neg (by rw [h3]; omega), h3]
theorem cmpV_add : ∀ (xs ys zs : List Int), xs.length = ys.length → xs.length = zs.length → cmpV (List.zipWith (· + ·) xs zs) (List.zipWith (· + ·) ys zs) = cmpV xs ys := by
  intro xs
  induction xs with
  | nil => intro ys zs h1 h2; cases ys with
    | nil => simp [cmpV]
    | cons y ys => simp at h1
  | cons x xs ih =>
    intro ys zs h1 h2
    cases ys with
    | nil => simp at h1
    | cons y ys =>
      cases zs with
      | nil => simp at h2
      | cons z zs =>
        have h3 := ih ys zs (by simpa using h1) (by simpa using h2)
        simp only [List.zipWith_cons_cons, cmpV, h3, show x + z - (y + z) = x - y by omega]
theorem cmpV_same : ∀ (xs ys : List Int), xs.length = ys.length → (cmpV xs ys = 0 ↔ xs = ys) := by
  intro xs
  induction xs with
  | nil => intro ys h; cases ys with
    | nil => simp [cmpV]
    | cons y ys => simp at h
  | cons x xs ih =>
    intro ys h
    cases ys with
    | nil => simp at h
    | cons y ys =>
      have h2 := ih ys (by simpa using h)
      simp only [cmpV]
      by_cases h0 : sgn (x - y) = 0
      · rw [if_pos h0, h2]
        have h3 := sgnV_nought.1 h0
        have h4 : x = y := by omega
        simp [h4]
      · rw [if_neg h0]
        have h3 : x ≠ y := fun h => h0 (by rw [h, Int.sub_self]; exact sgnV_zero)
        simp [h0, h3]
theorem cmpV_drop {xs ys : List Int} {k : Nat} (h1 : k < xs.length) (h2 : k < ys.length) : cmpV (xs.drop k) (ys.drop k) = if sgn (xs[k] - ys[k]) = 0 then cmpV (xs.drop (k + 1)) (ys.drop (k + 1)) else sgn (xs[k] - ys[k]) := by
  rw [List.drop_eq_getElem_cons h1, List.drop_eq_getElem_cons h2]
  rfl
theorem add_zero_same : ∀ (xs zs : List Int), xs.length = zs.length → (List.zipWith (· + ·) xs zs = xs ↔ ∀ z ∈ zs, z = 0) := by
  intro xs
  induction xs with
  | nil => intro zs h; cases zs with
    | nil => simp
    | cons z zs => simp at h
  | cons x xs ih =>
    intro zs h
    cases zs with
    | nil => simp at h
    | cons z zs =>
      have h2 := ih zs (by simpa using h)
      rw [List.zipWith_cons_cons]
      constructor
      · intro h3 u hu
        injection h3 with h4 h5
        rcases List.mem_cons.1 hu with rfl | hu
        · omega
        · exact h2.1 h5 u hu
      · intro h3
        rw [h2.2 fun u hu => h3 u (List.mem_cons_of_mem _ hu), h3 z List.mem_cons_self, Int.add_zero]

end Go.Proofs.YtajmijnoikkffaaGreat

namespace Go.Proofs.YtajmijnoikkffaaGreat
open Go.RowKit
set_option linter.unusedVariables false
set_option linter.unusedSimpArgs false

def zI (s : Bool) (l : List Nat) : Bool := !s && decide (l.length = 0)
def zeroV (ps : List (Bool × List Nat)) : Bool := ps.all fun p => zI p.1 p.2

set_option maxRecDepth 100000 in
set_option maxHeartbeats 1000000 in
theorem vzero1_any {w : World} {Z : Zone} {s : Bool} {l : List Nat} {A : Option Addr} {c : Nat} (hu : U64s w Z A c l) :
    Calls Tryz.prog 36 #[.agg #[.bool s, .slice A l.length c]] w fun e w' => e = .returned (.bool (!zI s l)) ∧ Below w.heap.size w w' := by
  have hal : Below w.heap.size w (w.alloc (.cells #[.bool s, .slice A l.length c] 42)) := (Below.refl _ _).alloc (Nat.le_refl _) _
  obtain ⟨x0, x1, _, _, _⟩ := Box.new w (.bool s) (.slice A l.length c) 42
  have Hal := Lib.hid hal
  have hl := hu.len
  cases s
  · by_cases h0 : l.length = 0
    · have e1 : zI false l = true := by unfold zI; rw [decide_eq_true h0]; rfl
      rw [e1]
      rw [h0] at Hal x0 x1 ⊢
      clear hal hu e1 h0 hl
      go_enter Tryz.func36, Tryz.ntmps36
      go_wp2
      go_ret
      exact ⟨by first | rfl | trivial, Hal.out⟩
    · have e1 : zI false l = false := by unfold zI; rw [decide_eq_false h0]; rfl
      have hd : decide ((0 : Int) < (l.length : Int)) = true := decide_eq_true (by omega)
      have hd2 : decide (0 < l.length) = true := decide_eq_true (by omega)
      have hd3 : 0 < l.length := by omega
      rw [e1]
      clear hal hu e1
      generalize l.length = L at *
      go_enter Tryz.func36, Tryz.ntmps36
      go_wp2
      go_ret
      exact ⟨by first | rfl | trivial, Hal.out⟩
  · have e1 : zI true l = false := rfl
    rw [e1]
    clear hal hu e1
    generalize l.length = L at *
    go_enter Tryz.func36, Tryz.ntmps36
    go_wp2
    go_ret
    exact ⟨by first | rfl | trivial, Hal.out⟩

set_option maxRecDepth 100000 in
set_option maxHeartbeats 1000000 in
theorem vindex_zero {w : World} {Z : Zone} {A : Option Addr} {c : Nat} {ps : List (Bool × List Nat)} (ha : VecAt w Z A c ps) (hl : ps.length ≤ 1000000000000) :
    Calls Tryz.prog 52 #[.slice A ps.length c, .func (.func 36) #[] #[]] w fun e w' => (∃ r, e = .returned (.int .i64 r) ∧ decide (0 ≤ r) = !(ps.all fun p => zI p.1 p.2)) ∧ Below w.heap.size w w' := by
  go_enter Tryz.func52, Tryz.ntmps52
  go_wp2
  go_loopw [8] (fun i wr => ∃ k : Nat, k ≤ ps.length ∧ i = .int .i64 k ∧ Below w.heap.size w wr ∧ Hid (∀ j (hj : j < ps.length), j < k → zI ps[j].1 ps[j].2 = true)) (fun i _ => ps.length - (intOf i).toNat)
  case atStart => exact ⟨0, Nat.zero_le _, rfl, Below.refl _ _, fun j hj h => absurd h (by omega)⟩
  case round =>
    obtain ⟨k, hk, rfl, hbel, hz⟩ := hrel
    by_cases hlt : k < ps.length
    · obtain ⟨b, o, B, d, rfl, hbb, c0, c1, hu⟩ := (ha.below hbel).at hlt
      have hck := vzero1_any (s := ps[k].1) hu
      have hok : zI ps[k].1 ps[k].2 = true ∨ zI ps[k].1 ps[k].2 = false := by cases zI ps[k].1 ps[k].2 <;> simp
      have Hall : Hid (zI ps[k].1 ps[k].2 = true → ∀ j (hj : j < ps.length), j < k + 1 → zI ps[j].1 ps[j].2 = true) := fun hx j hj hjk => by
        rcases Nat.lt_or_ge j k with h1 | h1
        · exact hz.out j hj h1
        · obtain rfl : j = k := by omega
          exact hx
      have Hnone : Hid (zI ps[k].1 ps[k].2 = false → (ps.all fun p => zI p.1 p.2) = false) := fun hx => by
        cases hall : ps.all (fun p => zI p.1 p.2)
        · rfl
        · have := List.all_eq_true.1 hall ps[k] (List.getElem_mem hlt)
          rw [this] at hx
          cases hx
      clear hu hz
      generalize ps[k].1 = s at *
      generalize ps[k].2 = l at *
      rcases hok with hok | hok
      all_goals
        rw [hok] at hck
        have Hck := Lib.hid hck
        have Hok := Lib.hid hok
        clear hck hok
        go_wp2_with fail
        refine Hck.out.mono ?_
        rintro e w1 ⟨rfl, hb2⟩
        have hb3 := from_ hbel hb2
        go_wp2
      · go_roundw
        case rel => exact ⟨k + 1, by omega, by go_num, hb3, Lib.hid (Hall.out Hok.out)⟩
        case measure => simp [intOf]; omega
      · go_ret
        exact ⟨⟨_, rfl, by rw [Hnone.out Hok.out]; exact decide_eq_true (by omega)⟩, hb3⟩
    · obtain rfl : k = ps.length := by omega
      have he : (ps.all fun p => zI p.1 p.2) = true := by
        rw [List.all_eq_true]
        intro p hp
        obtain ⟨j, hj, rfl⟩ := List.getElem_of_mem hp
        exact hz.out j hj hj
      have He := Lib.hid he
      clear he hz
      go_wp2
      go_ret
      exact ⟨⟨_, rfl, by rw [He.out]; rfl⟩, hbel⟩

set_option maxRecDepth 100000 in
set_option maxHeartbeats 1000000 in
theorem vcontains_zero {w : World} {Z : Zone} {A : Option Addr} {c : Nat} {ps : List (Bool × List Nat)} (ha : VecAt w Z A c ps) (hl : ps.length ≤ 1000000000000) :
    Calls Tryz.prog 35 #[.slice A ps.length c, .func (.func 36) #[] #[]] w fun e w' => e = .returned (.bool (!(ps.all fun p => zI p.1 p.2))) ∧ Below w.heap.size w w' := by
  have hix := vindex_zero ha hl
  have Hix := Lib.hid hix
  clear hix ha
  generalize ps.length = L at *
  generalize (ps.all fun p => zI p.1 p.2) = R at *
  go_enter Tryz.func35, Tryz.ntmps35
  go_wp2_with fail
  refine Hix.out.mono ?_
  rintro e w1 ⟨⟨r, rfl, hr⟩, hb1⟩
  go_wp2
  go_ret
  exact ⟨rfl, hb1⟩


set_option maxRecDepth 100000 in
set_option maxHeartbeats 1000000 in
theorem vzero_any {w : World} {Z : Zone} {A : Option Addr} {c : Nat} {ps : List (Bool × List Nat)} (ha : VecAt w Z A c ps) (hl : ps.length ≤ 1000000000000) :
    Calls Tryz.prog 17 #[.slice A ps.length c] w fun e w' => e = .returned (.bool (zeroV ps)) ∧ Below w.heap.size w w' := by
  have hct := vcontains_zero ha hl
  unfold zeroV
  have Hct := Lib.hid hct
  clear hct ha
  generalize (ps.all fun p => zI p.1 p.2) = R at *
  generalize ps.length = L at *
  go_enter Tryz.func17, Tryz.ntmps17
  go_wp2_with fail
  refine Hct.out.mono ?_
  rintro e w1 ⟨rfl, hb1⟩
  cases R
  all_goals
    go_wp2
    go_ret
    exact ⟨by first | rfl | trivial, hb1⟩

theorem zeroV_nm {zs : List Int} {ps : List (Bool × List Nat)} (h : NmV zs ps) : zeroV ps = decide (∀ z ∈ zs, z = 0) := by
  subst h
  unfold zeroV
  rw [List.all_map]
  refine Bool.eq_iff_iff.2 ?_
  rw [List.all_eq_true, decide_eq_true_iff]
  constructor
  · intro h z hz
    have h1 := h z hz
    simp only [Function.comp, zI, Bool.and_eq_true, decide_eq_true_eq, List.length_eq_zero_iff, limbs_eq_nil] at h1
    omega
  · intro h z hz
    rw [h z hz]
    simp [zI, limbs_eq_nil.2 rfl]

end Go.Proofs.YtajmijnoikkffaaGreat
