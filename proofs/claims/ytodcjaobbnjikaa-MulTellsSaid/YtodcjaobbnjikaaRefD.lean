/-
  What nat's and the document's functions of bits answer, at any words and any number: the same.
-/
import Derived.Test.YtodcjaobbnjikaaRefC
import Derived.Test.YtodcjaobbnjikaaNatH
namespace Go.Proofs.Ytodcjaobbnjikaa
open Go.RowKit
set_option linter.unusedVariables false
set_option linter.unusedSimpArgs false

def errB (l : List Nat) (b : Int) : Int := if good l = false then 8 else if b < 0 ∨ 65536 < b then 2 else 0
def upL (l : List Nat) (b : Int) : List Nat := if good l = true ∧ ¬ (b < 0 ∨ 65536 < b) then limbs (val l * 2 ^ b.toNat) else []
def downL (l : List Nat) (b : Int) : List Nat := if good l = true ∧ ¬ (b < 0 ∨ 65536 < b) then limbs (val l / 2 ^ b.toNat) else []
def errI (l : List Nat) (i : Int) : Int := if good l = false then 8 else if i < 0 then 2 else 0
def bitX (l : List Nat) (i : Int) : Int := if good l = true ∧ ¬ i < 0 then ((val l / 2 ^ i.toNat % 2 : Nat) : Int) else 0
def errL (l : List Nat) : Int := if good l = false then 8 else 0
def longX (l : List Nat) : Int := if good l = true then ((size (val l) : Nat) : Int) else 0

theorem up_all {w : World} {Z : Zone} {a : Value} {l : List Nat} {b : Int} (ha : IsU w Z a l) (hl : l.length ≤ 10000) :
    Calls Try.prog 35 #[a, .int .i64 b] w fun e w' => ∃ v, e = .returned (.tuple #[v, .int .i64 (errB l b)]) ∧ IsU w' (new w.heap.size) v (upL l b) ∧ Below w.heap.size w w' := by
  rcases ha.decN with ⟨hg, hn, hle⟩ | hg
  · by_cases hb : b < 0 ∨ 65536 < b
    · refine (up_arg ha hg hb).mono ?_
      rintro e w' ⟨rfl, rfl⟩
      exact ⟨.slice none 0 0, by simp [errB, hg, hb], by simpa [upL, hb] using IsU.nil _ _, Below.refl _ _⟩
    · obtain ⟨k, rfl⟩ : ∃ k : Nat, b = k := ⟨b.toNat, by omega⟩
      refine (up_good hn (by omega) (by omega)).mono ?_
      rintro e w' ⟨v, rfl, hv, hb1⟩
      exact ⟨v, by simp [errB, hg, hb], by unfold IsN at hv; simpa [upL, hg, hb] using hv, hb1⟩
  · refine (up_bad ha hg).mono ?_
    rintro e w' ⟨rfl, rfl⟩
    exact ⟨.slice none 0 0, by simp [errB, hg], by simpa [upL, hg] using IsU.nil _ _, Below.refl _ _⟩
theorem rup_all {w : World} {Z : Zone} {a : Value} {l : List Nat} {b : Int} (ha : IsU w Z a l) (hl : l.length ≤ 10000) :
    Calls Try.prog 36 #[a, .int .i64 b] w fun e w' => ∃ v, e = .returned (.tuple #[v, .int .i64 (errB l b)]) ∧ IsU w' (new w.heap.size) v (upL l b) ∧ Below w.heap.size w w' := by
  rcases ha.decN with ⟨hg, hn, hle⟩ | hg
  · by_cases hb : b < 0 ∨ 65536 < b
    · refine (rup_arg hn hb).mono ?_
      rintro e w' ⟨rfl, rfl⟩
      exact ⟨.slice none 0 0, by simp [errB, hg, hb], by simpa [upL, hb] using IsU.nil _ _, Below.refl _ _⟩
    · obtain ⟨k, rfl⟩ : ∃ k : Nat, b = k := ⟨b.toNat, by omega⟩
      refine (rup_good hn (by omega) (by omega)).mono ?_
      rintro e w' ⟨v, rfl, hv, hb1⟩
      exact ⟨v, by simp [errB, hg, hb], by unfold IsN at hv; simpa [upL, hg, hb] using hv, hb1⟩
  · refine (rup_bad ha hg).mono ?_
    rintro e w' ⟨rfl, rfl⟩
    exact ⟨.slice none 0 0, by simp [errB, hg], by simpa [upL, hg] using IsU.nil _ _, Below.refl _ _⟩
theorem down_all {w : World} {Z : Zone} {a : Value} {l : List Nat} {b : Int} (ha : IsU w Z a l) (hl : l.length ≤ 10000) :
    Calls Try.prog 37 #[a, .int .i64 b] w fun e w' => ∃ v, e = .returned (.tuple #[v, .int .i64 (errB l b)]) ∧ IsU w' (new w.heap.size) v (downL l b) ∧ Below w.heap.size w w' := by
  rcases ha.decN with ⟨hg, hn, hle⟩ | hg
  · by_cases hb : b < 0 ∨ 65536 < b
    · refine (down_arg ha hg hb).mono ?_
      rintro e w' ⟨rfl, rfl⟩
      exact ⟨.slice none 0 0, by simp [errB, hg, hb], by simpa [downL, hb] using IsU.nil _ _, Below.refl _ _⟩
    · obtain ⟨k, rfl⟩ : ∃ k : Nat, b = k := ⟨b.toNat, by omega⟩
      refine (down_good hn (by omega) (by omega)).mono ?_
      rintro e w' ⟨v, rfl, hv, hb1⟩
      exact ⟨v, by simp [errB, hg, hb], by unfold IsN at hv; simpa [downL, hg, hb] using hv, hb1⟩
  · refine (down_bad ha hg).mono ?_
    rintro e w' ⟨rfl, rfl⟩
    exact ⟨.slice none 0 0, by simp [errB, hg], by simpa [downL, hg] using IsU.nil _ _, Below.refl _ _⟩
theorem rdown_all {w : World} {Z : Zone} {a : Value} {l : List Nat} {b : Int} (ha : IsU w Z a l) (hl : l.length ≤ 10000) :
    Calls Try.prog 38 #[a, .int .i64 b] w fun e w' => ∃ v, e = .returned (.tuple #[v, .int .i64 (errB l b)]) ∧ IsU w' (new w.heap.size) v (downL l b) ∧ Below w.heap.size w w' := by
  rcases ha.decN with ⟨hg, hn, hle⟩ | hg
  · by_cases hb : b < 0 ∨ 65536 < b
    · refine (rdown_arg hn hb).mono ?_
      rintro e w' ⟨rfl, rfl⟩
      exact ⟨.slice none 0 0, by simp [errB, hg, hb], by simpa [downL, hb] using IsU.nil _ _, Below.refl _ _⟩
    · obtain ⟨k, rfl⟩ : ∃ k : Nat, b = k := ⟨b.toNat, by omega⟩
      refine (rdown_good hn (by omega) (by omega)).mono ?_
      rintro e w' ⟨v, rfl, hv, hb1⟩
      exact ⟨v, by simp [errB, hg, hb], by unfold IsN at hv; simpa [downL, hg, hb] using hv, hb1⟩
  · refine (rdown_bad ha hg).mono ?_
    rintro e w' ⟨rfl, rfl⟩
    exact ⟨.slice none 0 0, by simp [errB, hg], by simpa [downL, hg] using IsU.nil _ _, Below.refl _ _⟩
theorem long_all {w : World} {Z : Zone} {a : Value} {l : List Nat} (ha : IsU w Z a l) (hl : l.length ≤ 10000) :
    Calls Try.prog 31 #[a] w fun e w' => e = .returned (.tuple #[.int .i64 (longX l), .int .i64 (errL l)]) ∧ w = w' := by
  rcases ha.decN with ⟨hg, hn, hle⟩ | hg
  · refine (long_good hn (by omega)).mono ?_
    rintro e w' ⟨rfl, rfl⟩
    exact ⟨by simp [errL, longX, hg], rfl⟩
  · refine (long_bad ha hg).mono ?_
    rintro e w' ⟨rfl, rfl⟩
    exact ⟨by simp [errL, longX, hg], rfl⟩
theorem rlong_all {w : World} {Z : Zone} {a : Value} {l : List Nat} (ha : IsU w Z a l) (hl : l.length ≤ 10000) :
    Calls Try.prog 32 #[a] w fun e w' => e = .returned (.tuple #[.int .i64 (longX l), .int .i64 (errL l)]) ∧ w = w' := by
  rcases ha.decN with ⟨hg, hn, hle⟩ | hg
  · refine (rlong_good hn (by omega)).mono ?_
    rintro e w' ⟨rfl, rfl⟩
    exact ⟨by simp [errL, longX, hg], rfl⟩
  · refine (rlong_bad ha hg).mono ?_
    rintro e w' ⟨rfl, rfl⟩
    exact ⟨by simp [errL, longX, hg], rfl⟩
set_option maxHeartbeats 800000 in
theorem bit_bad {w : World} {Z : Zone} {a : Value} {l : List Nat} {i : Int} (ha : IsU w Z a l) (hg : good l = false) :
    Calls Try.prog 33 #[a, .int .i64 i] w fun e w' => e = .returned (.tuple #[.int .i64 0, .int .i64 8]) ∧ w = w' := by
  have H := Lib.hid (check_badU ha hg)
  clear hg
  go_enter Try.func33, Try.ntmps33
  go_wp2_with fail
  refine H.out.mono ?_
  rintro e w1 ⟨rfl, rfl⟩
  go_wp2
  go_ret2
  exact ⟨rfl, rfl⟩
set_option maxHeartbeats 800000 in
theorem bit_arg {w : World} {Z : Zone} {a : Value} {n : Nat} {i : Int} (ha : IsN w Z a n) (hi : i < 0) :
    Calls Try.prog 33 #[a, .int .i64 i] w fun e w' => e = .returned (.tuple #[.int .i64 0, .int .i64 2]) ∧ w = w' := by
  have H := Lib.hid (check_goodN ha)
  go_enter Try.func33, Try.ntmps33
  go_wp2_with fail
  refine H.out.mono ?_
  rintro e w1 ⟨rfl, rfl⟩
  go_wp2
  go_ret2
  exact ⟨rfl, rfl⟩

theorem bit_all {w : World} {Z : Zone} {a : Value} {l : List Nat} {i : Int} (ha : IsU w Z a l) (hi : i ≤ 9223372036854775807) :
    Calls Try.prog 33 #[a, .int .i64 i] w fun e w' => e = .returned (.tuple #[.int .i64 (bitX l i), .int .i64 (errI l i)]) ∧ w = w' := by
  rcases ha.decN with ⟨hg, hn, hle⟩ | hg
  · by_cases hb : i < 0
    · refine (bit_arg hn hb).mono ?_
      rintro e w' ⟨rfl, rfl⟩
      exact ⟨by simp [errI, bitX, hg, hb], rfl⟩
    · obtain ⟨k, rfl⟩ : ∃ k : Nat, i = k := ⟨i.toNat, by omega⟩
      refine (bit_good hn (by omega)).mono ?_
      rintro e w' ⟨rfl, rfl⟩
      exact ⟨by simp [errI, bitX, hg, hb], rfl⟩
  · refine (bit_bad ha hg).mono ?_
    rintro e w' ⟨rfl, rfl⟩
    exact ⟨by simp [errI, bitX, hg], rfl⟩
theorem rbit_all {w : World} {Z : Zone} {a : Value} {l : List Nat} {i : Int} (ha : IsU w Z a l) (hi : i ≤ 9223372036854775807) :
    Calls Try.prog 34 #[a, .int .i64 i] w fun e w' => e = .returned (.tuple #[.int .i64 (bitX l i), .int .i64 (errI l i)]) ∧ w = w' := by
  rcases ha.decN with ⟨hg, hn, hle⟩ | hg
  · by_cases hb : i < 0
    · refine (rbit_arg hn hb).mono ?_
      rintro e w' ⟨rfl, rfl⟩
      exact ⟨by simp [errI, bitX, hg, hb], rfl⟩
    · obtain ⟨k, rfl⟩ : ∃ k : Nat, i = k := ⟨i.toNat, by omega⟩
      refine (rbit_good hn (by omega)).mono ?_
      rintro e w' ⟨rfl, rfl⟩
      exact ⟨by simp [errI, bitX, hg, hb], rfl⟩
  · refine (rbit_bad ha hg).mono ?_
    rintro e w' ⟨rfl, rfl⟩
    exact ⟨by simp [errI, bitX, hg], rfl⟩

end Go.Proofs.Ytodcjaobbnjikaa
