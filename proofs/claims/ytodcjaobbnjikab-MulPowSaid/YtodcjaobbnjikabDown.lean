/-
  The contract of nat.Down. No conditions but that a number has at most 900,000 limbs.
-/
import Derived.RegionTactic
import Derived.ChangeAlike
import Derived.BigRegion
import Derived.Test.YtodcjaobbnjikabClone
namespace Go.Proofs.Ytodcjaobbnjikab
open Go.RowKit
set_option linter.unusedVariables false
set_option linter.unusedSimpArgs false

theorem U64s.drop {w : World} {Z : Zone} {A : Option Addr} {c : Nat} {l : List Nat} (h : U64s w Z A c l) {k : Nat} (hk : k ≤ l.length) :
    U64s w Z (if c = k then A else A.map (·.add k)) (c - k) (l.drop k) := by
  have hcap := h.cap
  have hmax := h.max
  refine ⟨h.small.drop k, by rw [List.length_drop]; omega, by omega, fun hA => ?_, fun h0 => ?_⟩
  · split at hA
    · omega
    · cases A with
      | none => have := h.nul rfl; omega
      | some a => cases hA
  · have hkl : k < l.length := by simp at h0; omega
    obtain ⟨b, o, rfl, hb, hf, hc⟩ := h.row (by simp; omega)
    rw [if_neg (by omega)]
    refine ⟨b, o + k, by simp [Addr.add_lit], hb, fun hs j => by rw [Nat.add_assoc]; exact hf hs _, fun j u hu => ?_⟩
    rw [Nat.add_assoc]
    exact hc _ u (by rw [← hu, List.map_drop, List.getElem?_drop])

theorem own_form {w : World} {base : Nat} {e : TypeId} {A : Option Addr} {n c : Nat} {xs : List Value} (h : w.ownsRow base e 1 (.slice A n c) n xs) (hn : 0 < n) : ∃ g, A = some ⟨g, 0, none⟩ ∧ base ≤ g := by
  rcases h.2 with ⟨_, h0⟩ | ⟨g, cap, cur, e1, hb, _⟩
  · omega
  · injection e1 with e1
    exact ⟨g, e1, hb⟩

/-- How a number divided stands in memory behind k rounds: the first k limbs are done. -/
def downO (n d : Nat) (l : List Nat) (k : Nat) : List Nat := (List.range k).map (fun i => d / 18446744073709551616 ^ i % 18446744073709551616) ++ l.drop k

theorem downO_length {n d : Nat} {l : List Nat} {k : Nat} (hk : k ≤ l.length) : (downO n d l k).length = l.length := by simp [downO]; omega
theorem downO_at {n d : Nat} {l : List Nat} {k j : Nat} (hk : k ≤ j) : (downO n d l k)[j]? = l[j]? := by
  unfold downO
  rw [List.getElem?_append_right (by simp; omega), List.getElem?_drop]
  simp [show k + (j - k) = j by omega]
theorem downO_step {n d : Nat} {l : List Nat} {k : Nat} (hk : k < l.length) : (downO n d l k).set k (d / 18446744073709551616 ^ k % 18446744073709551616) = downO n d l (k + 1) := by
  unfold downO
  rw [List.set_append_right _ _ (by simp)]
  simp only [List.length_map, List.length_range, Nat.sub_self]
  rw [List.drop_eq_getElem_cons hk, List.set_cons_zero, List.range_succ]
  simp

theorem val_digits (d k : Nat) : val ((List.range k).map (fun i => d / 18446744073709551616 ^ i % 18446744073709551616)) = d % 18446744073709551616 ^ k := by
  induction k with
  | zero => simp [val, Nat.mod_one]
  | succ k ih =>
    rw [List.range_succ, List.map_append, val_append, ih]
    simp only [List.map_cons, List.map_nil, val, List.length_map, List.length_range, Nat.mul_zero, Nat.add_zero]
    rw [Nat.pow_succ, Nat.mod_mul]

/-- A limb of a quotient by 2^(64q + r), out of two limbs. -/
theorem down_limb (n q r i : Nat) (hr : r < 64) : n / 2 ^ (64 * q + r) / 18446744073709551616 ^ i % 18446744073709551616 =
    (limbs n)[q + i]?.getD 0 / 2 ^ r ||| (limbs n)[q + i + 1]?.getD 0 * 2 ^ (64 - r) % 18446744073709551616 := by
  rw [limb_get, limb_get]
  have e1 : n / 2 ^ (64 * q + r) / 18446744073709551616 ^ i = n / 18446744073709551616 ^ (q + i) / 2 ^ r := by
    rw [W_pow, W_pow, Nat.div_div_eq_div_mul, Nat.div_div_eq_div_mul, ← Nat.pow_add, ← Nat.pow_add]
    congr 2
    omega
  have e2 : n / 18446744073709551616 ^ (q + i + 1) = n / 18446744073709551616 ^ (q + i) / 18446744073709551616 := by rw [Nat.pow_succ, Nat.div_div_eq_div_mul]
  rw [e1, e2]
  generalize n / 18446744073709551616 ^ (q + i) = m
  have hw : (18446744073709551616 : Nat) = 2 ^ r * 2 ^ (64 - r) := by rw [← Nat.pow_add, show r + (64 - r) = 64 by omega]
  have h2 : 0 < 2 ^ r := Nat.pow_pos (by omega)
  have h3 : 0 < 2 ^ (64 - r) := Nat.pow_pos (by omega)
  -- the low part
  have a1 : m % 18446744073709551616 / 2 ^ r = m / 2 ^ r % 2 ^ (64 - r) := by
    rw [hw, Nat.mod_mul_right_div_self]
  have a2 : (m / 18446744073709551616 % 18446744073709551616) * 2 ^ (64 - r) % 18446744073709551616 = 2 ^ (64 - r) * (m / 18446744073709551616 % 2 ^ r) := by
    have : (18446744073709551616 : Nat) = 2 ^ (64 - r) * 2 ^ r := by rw [hw, Nat.mul_comm]
    rw [Nat.mul_comm (m / 18446744073709551616 % 18446744073709551616)]
    conv => lhs; rw [show (2 ^ (64 - r) * (m / 18446744073709551616 % 18446744073709551616) % 18446744073709551616) = 2 ^ (64 - r) * (m / 18446744073709551616 % 18446744073709551616) % (2 ^ (64 - r) * 2 ^ r) from by rw [← this]]
    rw [Nat.mul_mod_mul_left]
    congr 1
    rw [hw, Nat.mod_mul_right_mod]
  rw [a1, a2, Nat.or_comm, ← Nat.two_pow_add_eq_or_of_lt (Nat.mod_lt _ h3)]
  have e3 : m / 18446744073709551616 = m / 2 ^ r / 2 ^ (64 - r) := by rw [hw, Nat.div_div_eq_div_mul]
  rw [e3]
  generalize m / 2 ^ r = p
  have hw' : (18446744073709551616 : Nat) = 2 ^ (64 - r) * 2 ^ r := by rw [hw, Nat.mul_comm]
  rw [hw', Nat.mod_mul]
  omega

theorem down_done {n q r : Nat} {l' : List Nat} (hl : l' = (limbs n).drop q) : Small (downO n (n / 2 ^ (64 * q + r)) l' l'.length) ∧ val (downO n (n / 2 ^ (64 * q + r)) l' l'.length) = n / 2 ^ (64 * q + r) := by
  unfold downO
  rw [List.drop_length, List.append_nil, val_digits]
  refine ⟨fun x hx => ?_, Nat.mod_eq_of_lt ?_⟩
  · obtain ⟨i, _, rfl⟩ := List.mem_map.1 hx
    exact Nat.mod_lt _ (by omega)
  · have h1 := lt_pow_len n
    rw [hl, List.length_drop]
    rw [Nat.div_lt_iff_lt_mul (Nat.pow_pos (by omega))]
    refine Nat.lt_of_lt_of_le h1 ?_
    rw [W_pow, W_pow, ← Nat.pow_add]
    exact Nat.pow_le_pow_right (by omega) (by omega)

end Go.Proofs.Ytodcjaobbnjikab
