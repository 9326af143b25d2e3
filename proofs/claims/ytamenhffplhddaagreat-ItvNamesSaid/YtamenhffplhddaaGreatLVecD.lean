/-
  Rows of whole numbers at any words: what a row is in memory, vec.Check, vec.checked of one and two rows. No conditions but bounds on lengths.
-/
import Derived.Deep.RegionHeld3
import Derived.Test.YtamenhffplhddaaGreatLRndP
import Derived.Test.YtamenhffplhddaaGreatLWhJ
namespace Go.Proofs.YtamenhffplhddaaGreat
open Go.RowKit
set_option linter.unusedVariables false
set_option linter.unusedSimpArgs false

/-- A row of signs and words in memory. -/
structure VecAt (w : World) (Z : Zone) (A : Option Addr) (c : Nat) (ps : List (Bool × List Nat)) : Prop where
  cap : ps.length ≤ c
  max : c ≤ 9223372036854775807
  row : 0 < ps.length → ∃ b o, A = some ⟨b, o, none⟩ ∧ Z.blk b ∧ b < w.heap.size ∧ (Z.soft → ∀ j, w.frozen? ⟨b, o + j, none⟩ = false) ∧
    ∀ j (hj : j < ps.length), ∃ B d, w.cell? ⟨b, o + j * 2, none⟩ = some (.bool ps[j].1) ∧ w.cell? ⟨b, o + j * 2 + 1, none⟩ = some (.slice B ps[j].2.length d) ∧ U64s w Z B d ps[j].2

def IsVec (w : World) (Z : Zone) (v : Value) (ps : List (Bool × List Nat)) : Prop := ∃ A c, v = .slice A ps.length c ∧ VecAt w Z A c ps

theorem VecAt.nil (w : World) (Z : Zone) : VecAt w Z none 0 [] := ⟨by simp, by omega, fun h => absurd h (by simp)⟩
theorem VecAt.below {w w' : World} {Z : Zone} {A : Option Addr} {c : Nat} {ps : List (Bool × List Nat)} (h : VecAt w Z A c ps) (hb : Below w.heap.size w w') : VecAt w' Z A c ps := by
  refine ⟨h.cap, h.max, fun h0 => ?_⟩
  obtain ⟨b, o, e, h1, h2, h3, h4⟩ := h.row h0
  refine ⟨b, o, e, h1, Nat.lt_of_lt_of_le h2 hb.size, fun hs j => ((bcell hb).2 b (o + j) h2).trans (h3 hs j), fun j hj => ?_⟩
  obtain ⟨B, d, c0, c1, hu⟩ := h4 j hj
  exact ⟨B, d, keepC hb c0, keepC hb c1, hu.below hb⟩
theorem VecAt.mono {w : World} {Z Y : Zone} {A : Option Addr} {c : Nat} {ps : List (Bool × List Nat)} (h : VecAt w Z A c ps) (hz : Z.le Y) : VecAt w Y A c ps := by
  refine ⟨h.cap, h.max, fun h0 => ?_⟩
  obtain ⟨b, o, e, h1, h2, h3, h4⟩ := h.row h0
  refine ⟨b, o, e, hz.1 b h1, h2, fun hs => h3 (hz.2 hs), fun j hj => ?_⟩
  obtain ⟨B, d, c0, c1, hu⟩ := h4 j hj
  exact ⟨B, d, c0, c1, hu.mono hz⟩
theorem VecAt.keep {w w' : World} {Z : Zone} {A : Option Addr} {c : Nat} {ps : List (Bool × List Nat)} (h : VecAt w Z A c ps) (hs : w.heap.size ≤ w'.heap.size) (hk : ∀ b, Z.blk b → b < w.heap.size → w'.heap[b]? = w.heap[b]?) : VecAt w' Z A c ps := by
  refine ⟨h.cap, h.max, fun h0 => ?_⟩
  obtain ⟨b, o, e, h1, h2, h3, h4⟩ := h.row h0
  have hb := hk b h1 h2
  refine ⟨b, o, e, h1, by omega, fun hs j => (World.frozen?_of_block (a := ⟨b, o + j, none⟩) hb).trans (h3 hs j), fun j hj => ?_⟩
  obtain ⟨B, d, c0, c1, hu⟩ := h4 j hj
  exact ⟨B, d, (World.cell?_of_block (a := ⟨b, o + j * 2, none⟩) hb).trans c0, (World.cell?_of_block (a := ⟨b, o + j * 2 + 1, none⟩) hb).trans c1, hu.keep hk⟩
theorem VecAt.len {w : World} {Z : Zone} {A : Option Addr} {c : Nat} {ps : List (Bool × List Nat)} (h : VecAt w Z A c ps) : ps.length ≤ 9223372036854775807 := Nat.le_trans h.cap h.max
theorem VecAt.small {w : World} {Z : Zone} {A : Option Addr} {c : Nat} {ps : List (Bool × List Nat)} (h : VecAt w Z A c ps) : ∀ p ∈ ps, Small p.2 := fun p hp => by
  obtain ⟨j, hj, rfl⟩ := List.getElem_of_mem hp
  obtain ⟨b, o, _, _, _, _, h4⟩ := h.row (by omega)
  obtain ⟨B, d, _, _, hu⟩ := h4 j hj
  exact hu.small
/-- The place of the j-th number, and it. -/
theorem VecAt.at {w : World} {Z : Zone} {A : Option Addr} {c : Nat} {ps : List (Bool × List Nat)} (h : VecAt w Z A c ps) {j : Nat} (hj : j < ps.length) :
    ∃ b o B d, A = some ⟨b, o, none⟩ ∧ b < w.heap.size ∧ w.cell? ⟨b, o + j * 2, none⟩ = some (.bool ps[j].1) ∧ w.cell? ⟨b, o + j * 2 + 1, none⟩ = some (.slice B ps[j].2.length d) ∧ U64s w Z B d ps[j].2 := by
  obtain ⟨b, o, e, _, h2, _, h4⟩ := h.row (by omega)
  obtain ⟨B, d, c0, c1, hu⟩ := h4 j hj
  exact ⟨b, o, B, d, e, h2, c0, c1, hu⟩

def okV (ps : List (Bool × List Nat)) : Bool := decide (ps.length ≤ 64) && ps.all fun p => okI p.1 p.2
def errV (ps : List (Bool × List Nat)) : Int := if okV ps = true then 0 else 8

set_option maxRecDepth 100000 in
set_option maxHeartbeats 1000000 in
theorem vcheck1_any {w : World} {Z : Zone} {s : Bool} {l : List Nat} {A : Option Addr} {c : Nat} (hu : U64s w Z A c l) :
    Calls Tryz.prog 131 #[.agg #[.bool s, .slice A l.length c]] w fun e w' => e = .returned (.bool (!okI s l)) ∧ Below w.heap.size w w' := by
  have hal : Below w.heap.size w (w.alloc (.cells #[.bool s, .slice A l.length c] 25)) := (Below.refl _ _).alloc (Nat.le_refl _) _
  obtain ⟨x0, x1, _, _, _⟩ := Box.new w (.bool s) (.slice A l.length c) 25
  have hck := wcheck_any (a := .agg #[.bool s, .slice A l.length c]) ⟨_, rfl, A, c, rfl, hu.below hal⟩
  have hE : errC s l = if okI s l = true then 0 else 8 := rfl
  rw [hE] at hck
  have Hal := Lib.hid hal
  cases hok : okI s l
  all_goals
    rw [hok] at hck
    simp only [Bool.false_eq_true, if_true, if_false] at hck
    have Hck := Lib.hid hck
    clear hck hE hok hu hal
    generalize l.length = L at *
    go_enter Tryz.func131, Tryz.ntmps131
    go_wp2_with fail
    refine Hck.out.mono ?_
    rintro e w1 ⟨rfl, hb1⟩
    go_wp2
    go_ret
    exact ⟨rfl, from_ Hal.out hb1⟩

set_option maxRecDepth 100000 in
set_option maxHeartbeats 1000000 in
theorem vindex_check {w : World} {Z : Zone} {A : Option Addr} {c : Nat} {ps : List (Bool × List Nat)} (ha : VecAt w Z A c ps) (hl : ps.length ≤ 1000000000000) :
    Calls Tryz.prog 146 #[.slice A ps.length c, .func (.func 131) #[] #[]] w fun e w' => (∃ r, e = .returned (.int .i64 r) ∧ decide (0 ≤ r) = !(ps.all fun p => okI p.1 p.2)) ∧ Below w.heap.size w w' := by
  go_enter Tryz.func146, Tryz.ntmps146
  go_wp2
  go_loopw [8] (fun i wr => ∃ k : Nat, k ≤ ps.length ∧ i = .int .i64 k ∧ Below w.heap.size w wr ∧ Hid (∀ j (hj : j < ps.length), j < k → okI ps[j].1 ps[j].2 = true)) (fun i _ => ps.length - (intOf i).toNat)
  case atStart => exact ⟨0, Nat.zero_le _, rfl, Below.refl _ _, fun j hj h => absurd h (by omega)⟩
  case round =>
    obtain ⟨k, hk, rfl, hbel, hz⟩ := hrel
    by_cases hlt : k < ps.length
    · obtain ⟨b, o, B, d, rfl, hbb, c0, c1, hu⟩ := (ha.below hbel).at hlt
      have hck := vcheck1_any (s := ps[k].1) hu
      have hok : okI ps[k].1 ps[k].2 = true ∨ okI ps[k].1 ps[k].2 = false := by cases okI ps[k].1 ps[k].2 <;> simp
      have Hall : Hid (okI ps[k].1 ps[k].2 = true → ∀ j (hj : j < ps.length), j < k + 1 → okI ps[j].1 ps[j].2 = true) := fun hx j hj hjk => by
        rcases Nat.lt_or_ge j k with h1 | h1
        · exact hz.out j hj h1
        · obtain rfl : j = k := by omega
          exact hx
      have Hnone : Hid (okI ps[k].1 ps[k].2 = false → (ps.all fun p => okI p.1 p.2) = false) := fun hx => by
        cases hall : ps.all (fun p => okI p.1 p.2)
        · rfl
        · have := List.all_eq_true.1 hall ps[k] (List.getElem_mem hlt)
          rw [this] at hx
          cases hx
      clear hu hz
      generalize ps[k].1 = s at *
      generalize ps[k].2 = l at *
      rcases hok with hok | hok
      all_goals
        rw [hok] at hck
        have Hck := Lib.hid hck
        have Hok := Lib.hid hok
        clear hck hok
        go_wp2_with fail
        refine Hck.out.mono ?_
        rintro e w1 ⟨rfl, hb2⟩
        have hb3 := from_ hbel hb2
        go_wp2
      · go_roundw
        case rel => exact ⟨k + 1, by omega, by go_num, hb3, Lib.hid (Hall.out Hok.out)⟩
        case measure => simp [intOf]; omega
      · go_ret
        exact ⟨⟨_, rfl, by rw [Hnone.out Hok.out]; exact decide_eq_true (by omega)⟩, hb3⟩
    · obtain rfl : k = ps.length := by omega
      have he : (ps.all fun p => okI p.1 p.2) = true := by
        rw [List.all_eq_true]
        intro p hp
        obtain ⟨j, hj, rfl⟩ := List.getElem_of_mem hp
        exact hz.out j hj hj
      have He := Lib.hid he
      clear he hz
      go_wp2
      go_ret
      exact ⟨⟨_, rfl, by rw [He.out]; rfl⟩, hbel⟩

set_option maxRecDepth 100000 in
set_option maxHeartbeats 1000000 in
theorem vcontains_check {w : World} {Z : Zone} {A : Option Addr} {c : Nat} {ps : List (Bool × List Nat)} (ha : VecAt w Z A c ps) (hl : ps.length ≤ 1000000000000) :
    Calls Tryz.prog 130 #[.slice A ps.length c, .func (.func 131) #[] #[]] w fun e w' => e = .returned (.bool (!(ps.all fun p => okI p.1 p.2))) ∧ Below w.heap.size w w' := by
  have hix := vindex_check ha hl
  have Hix := Lib.hid hix
  clear hix ha
  generalize ps.length = L at *
  generalize (ps.all fun p => okI p.1 p.2) = R at *
  go_enter Tryz.func130, Tryz.ntmps130
  go_wp2_with fail
  refine Hix.out.mono ?_
  rintro e w1 ⟨⟨r, rfl, hr⟩, hb1⟩
  go_wp2
  go_ret
  exact ⟨rfl, hb1⟩

set_option maxRecDepth 100000 in
set_option maxHeartbeats 1000000 in
theorem vcheck_any {w : World} {Z : Zone} {A : Option Addr} {c : Nat} {ps : List (Bool × List Nat)} (ha : VecAt w Z A c ps) :
    Calls Tryz.prog 113 #[.slice A ps.length c] w fun e w' => e = .returned (.int .i64 (errV ps)) ∧ Below w.heap.size w w' := by
  by_cases hl : ps.length ≤ 64
  · have hct := vcontains_check ha (by omega)
    have hd : decide ((64 : Int) < (ps.length : Int)) = false := decide_eq_false (by omega)
    have he : errV ps = if (ps.all fun p => okI p.1 p.2) = true then 0 else 8 := by
      unfold errV okV
      rw [decide_eq_true hl, Bool.true_and]
    rw [he]
    clear ha he
    cases hR : (ps.all fun p => okI p.1 p.2)
    all_goals
      rw [hR] at hct
      have Hct := Lib.hid hct
      clear hct hR hl
      simp only [Bool.false_eq_true, if_true, if_false]
      generalize ps.length = L at *
      go_enter Tryz.func113, Tryz.ntmps113
      go_wp2_with fail
      refine Hct.out.mono ?_
      rintro e w1 ⟨rfl, hb1⟩
      go_wp2
      go_ret
      exact ⟨rfl, hb1⟩
  · have hd : decide ((64 : Int) < (ps.length : Int)) = true := decide_eq_true (by omega)
    have he : errV ps = 8 := by
      unfold errV okV
      rw [decide_eq_false hl, Bool.false_and]
      rfl
    rw [he]
    clear ha he hl
    generalize ps.length = L at *
    go_enter Tryz.func113, Tryz.ntmps113
    go_wp2
    go_ret
    exact ⟨rfl, Below.refl _ _⟩

end Go.Proofs.YtamenhffplhddaaGreat
