/-
  facetroomlaw04.of, facetroomlaw04.alive: what they answer. The one premise: the table of powers of ten reads as it is laid. No conditions.
-/
import Derived.Test.YtbcplffdoejniaaGreatDoorJRatC
import Derived.Test.YtbcplffdoejniaaGreatDoorJDigC
import Derived.Test.YtbcplffdoejniaaGreatDoorJRefI
import Derived.Test.YtbcplffdoejniaaGreatDoorJNatE
namespace Go.Proofs.YtbcplffdoejniaaGreatDoor
open Go.RowKit
set_option linter.unusedVariables false
set_option linter.unusedSimpArgs false

theorem keepA4 {W : World} {o : Obj} {g i : Nat} {v : Value} (h : W.cell? ⟨g, i, none⟩ = some v) : (W.alloc o).cell? ⟨g, i, none⟩ = some v := by
  have hl := lt_of_cell h
  exact (((Below.refl W.heap.size W).alloc (Nat.le_refl _) o).cell (p := ⟨g, i, none⟩) hl).trans h

/-- Digits, with fuel. -/
def decF : Nat → Nat → List UInt8
  | 0, _ => []
  | f + 1, u => if u < 10 then [UInt8.ofNat (48 + u)] else decF f (u / 10) ++ [UInt8.ofNat (48 + u % 10)]
theorem decF_eq : ∀ (f u : Nat), u < 10 ^ (f + 1) → Lib.decDigits u = decF (f + 1) u
  | 0, u, h => by
    have h' : u < 10 := by simpa using h
    rw [decF, if_pos h', Lib.decDigits_one h']
  | f + 1, u, h => by
    by_cases hu : u < 10
    · rw [decF, if_pos hu, Lib.decDigits_one hu]
    · rw [Nat.pow_succ] at h
      rw [decF, if_neg hu, dec_big (by omega), decF_eq f (u / 10) (by omega)]

/-- The text of a number that lies in one or two words. -/
theorem text_lit {n : Nat} {s : List UInt8} (f : Nat) (h : n < 10 ^ (f + 1)) (hs : decF (f + 1) n = s) (h2 : size n ≤ 16384) (h4 : s.length ≤ 4096) : textE n = 0 ∧ textS n = s := by
  have e : Lib.decDigits n = s := by rw [decF_eq f n h, hs]
  have := text_few h2 (by rw [e]; exact h4)
  rwa [e] at this

end Go.Proofs.YtbcplffdoejniaaGreatDoor
