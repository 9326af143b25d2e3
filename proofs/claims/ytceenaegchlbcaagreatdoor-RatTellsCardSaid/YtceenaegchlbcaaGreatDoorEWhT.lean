/-
  whole.Text at any words. The one premise: the table of powers of ten reads as it is laid.
-/
import Derived.Test.YtceenaegchlbcaaGreatDoorEWhU
import Derived.Test.YtceenaegchlbcaaGreatDoorEDigC
namespace Go.Proofs.YtceenaegchlbcaaGreatDoor
open Go.RowKit
set_option linter.unusedVariables false
set_option linter.unusedSimpArgs false

def wErrT (s : Bool) (l : List Nat) : Int := if okI s l = true then errT l else 8
def wTxtT (s : Bool) (l : List Nat) : List UInt8 := if okI s l = true then (if s = true ∧ errT l = 0 then 45 :: txtT l else txtT l) else []

theorem textS_len (n : Nat) : (textS n).length ≤ 4096 := by
  unfold textS
  split
  · rename_i h; exact h.2
  · simp
theorem txtT_len (l : List Nat) : (txtT l).length ≤ 4096 := by
  unfold txtT
  split
  · exact textS_len _
  · simp

set_option maxRecDepth 100000 in
set_option maxHeartbeats 1000000 in
theorem wtext_any {w : World} {Z : Zone} {s : Bool} {l : List Nat} {A : Option Addr} {c : Nat} (u : U64s w Z A c l) (hl : l.length ≤ 20000) (ht : Tab w) :
    Calls Tryz.prog 17 #[.agg #[.bool s, .slice A l.length c]] w fun e w' => e = .returned (.tuple #[strV (wTxtT s l), .int .i64 (wErrT s l)]) ∧ Below w.heap.size w w' := by
  have hB : Below w.heap.size w (w.alloc (.cells #[.bool s, .slice A l.length c] 36)) := (Below.refl _ w).alloc (Nat.le_refl _) _
  obtain ⟨b0, b1, _, _, _⟩ := Box.new w (.bool s) (.slice A l.length c) 36
  have hck := wcheck_any (a := .agg #[.bool s, .slice A l.length c]) ⟨_, rfl, A, c, rfl, u.below hB⟩
  have htx : Hid (∀ w1, Below w.heap.size w w1 → Calls Tryz.prog 6 #[.slice A l.length c] w1 fun e w' => e = .returned (.tuple #[strV (txtT l), .int .i64 (errT l)]) ∧ Below w1.heap.size w1 w') := fun w1 h => gtext_all ⟨A, c, rfl, u.below h⟩ hl (ht.below h)
  by_cases ho : okI s l = true
  · have e1 : errC s l = 0 := by unfold errC; rw [if_pos ho]
    have e2 : wErrT s l = errT l := by unfold wErrT; rw [if_pos ho]
    have e3 : wTxtT s l = if s = true ∧ errT l = 0 then 45 :: txtT l else txtT l := by unfold wTxtT; rw [if_pos ho]
    rw [e1] at hck
    rw [e2, e3]
    have Hck := Lib.hid hck
    clear hck u ht ho e1 e2 e3 hl
    generalize l.length = L at *
    obtain ⟨x, hx⟩ : ∃ x : ByteArray, x = ⟨(txtT l).toArray⟩ := ⟨_, rfl⟩
    have hcat : (⟨#[45]⟩ : ByteArray) ++ x = ⟨(45 :: txtT l).toArray⟩ := by
      rw [hx]
      apply ByteArray.ext
      simp
    have hxs : x.size ≤ 4096 := by have := txtT_len l; rw [hx]; simpa [ByteArray.size] using this
    have Hcat := Lib.hid hcat
    have Hx := Lib.hid hx
    have htx2 : Hid (∀ w1, Below w.heap.size w w1 → Calls Tryz.prog 6 #[.slice A L c] w1 fun e w' => e = .returned (.tuple #[.string x, .int .i64 (errT l)]) ∧ Below w1.heap.size w1 w') := fun w1 h => by rw [hx]; exact htx.out w1 h
    clear hcat hx htx
    have hcase : (errT l = 0 ∧ s = true ∧ (if s = true ∧ errT l = 0 then 45 :: txtT l else txtT l) = 45 :: txtT l) ∨ (errT l = 0 ∧ s = false ∧ (if s = true ∧ errT l = 0 then 45 :: txtT l else txtT l) = txtT l) ∨ ((errT l == 0) = false ∧ (if s = true ∧ errT l = 0 then 45 :: txtT l else txtT l) = txtT l) := by
      by_cases h : errT l = 0
      · cases s
        · exact .inr (.inl ⟨h, rfl, by simp⟩)
        · exact .inl ⟨h, rfl, by simp [h]⟩
      · exact .inr (.inr ⟨beq_eq_false_iff_ne.2 h, by simp [h]⟩)
    generalize hR : (if s = true ∧ errT l = 0 then 45 :: txtT l else txtT l) = R at *
    clear hR
    generalize errT l = E at *
    rcases hcase with ⟨rfl, rfl, h3⟩ | ⟨rfl, rfl, h3⟩ | ⟨h1, h3⟩
    all_goals
      have H3 := Lib.hid h3
      clear h3
      go_enter Tryz.func17, Tryz.ntmps17
      go_wp2_with fail
      refine Hck.out.mono ?_
      rintro e w1 ⟨rfl, hb1⟩
      have hB1 := from_ hB hb1
      replace b0 := keepC hb1 b0
      replace b1 := keepC hb1 b1
      go_wp2_with fail
      refine (htx2.out _ hB1).mono ?_
      rintro e w2 ⟨rfl, hb2⟩
      have hB2 := from_ hB1 hb2
      replace b0 := keepC hb2 b0
      replace b1 := keepC hb2 b1
      go_wp2
      try go_ret2
      first
        | exact ⟨by rw [H3.out, Hx.out]; rfl, hB2⟩
        | (exact ⟨by rw [H3.out]; show Ending.returned (.tuple #[.string (⟨#[45]⟩ ++ x), _]) = _; rw [Hcat.out], hB2⟩)
        | trace_state
  · have e1 : errC s l = 8 := by unfold errC; rw [if_neg ho]
    have e2 : wErrT s l = 8 := by unfold wErrT; rw [if_neg ho]
    have e3 : wTxtT s l = [] := by unfold wTxtT; rw [if_neg ho]
    rw [e1] at hck
    rw [e2, e3]
    have Hck := Lib.hid hck
    clear hck u ht ho e1 e2 e3 hl htx
    generalize l.length = L at *
    go_enter Tryz.func17, Tryz.ntmps17
    go_wp2_with fail
    refine Hck.out.mono ?_
    rintro e w1 ⟨rfl, hb1⟩
    have hB1 := from_ hB hb1
    go_wp2
    go_ret2
    exact ⟨rfl, hB1⟩

end Go.Proofs.YtceenaegchlbcaaGreatDoor
