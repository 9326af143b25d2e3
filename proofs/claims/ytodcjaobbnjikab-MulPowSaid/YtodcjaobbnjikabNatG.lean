/-
  The contract of nat.Up. No conditions but that a number has at most 900,000 limbs.
-/
import Derived.Test.YtodcjaobbnjikabNatF
namespace Go.Proofs.Ytodcjaobbnjikab
open Go.RowKit
set_option linter.unusedVariables false
set_option linter.unusedSimpArgs false

/-- How a shifted number stands in memory behind k rounds. -/
def upO (q k n : Nat) (m : List Nat) (h : Nat) : List Nat := List.replicate q 0 ++ (m ++ h :: List.replicate (n - k) 0)

theorem upO_length {q k n : Nat} {m : List Nat} {h : Nat} (hm : m.length = k) (hk : k ≤ n) : (upO q k n m h).length = q + n + 1 := by
  simp [upO, hm]; omega
theorem upO_at {q k n : Nat} {m : List Nat} {h : Nat} (hm : m.length = k) : (upO q k n m h)[q + k]? = some h := by
  unfold upO
  rw [List.getElem?_append_right (by simp)]
  simp only [List.length_replicate, Nat.add_sub_cancel_left]
  rw [List.getElem?_append_right (by omega)]
  simp [hm]
theorem set_mid (R X : List Nat) (i a : Nat) : (R ++ X).set (R.length + i) a = R ++ X.set i a := by
  rw [List.set_append_right _ _ (by omega), Nat.add_sub_cancel_left]
theorem upO_step {q k n : Nat} {m : List Nat} {h a b : Nat} (hm : m.length = k) (hk : k < n) : ((upO q k n m h).set (q + k) a).set (q + k + 1) b = upO q (k + 1) n (m ++ [a]) b := by
  obtain ⟨j, hj⟩ : ∃ j, n - k = j + 1 := ⟨n - k - 1, by omega⟩
  have e1 : upO q k n m h = List.replicate q 0 ++ (m ++ (h :: 0 :: List.replicate j 0)) := by unfold upO; rw [hj, List.replicate_succ]
  have e2 : upO q (k + 1) n (m ++ [a]) b = List.replicate q 0 ++ (m ++ (a :: b :: List.replicate j 0)) := by unfold upO; rw [show n - (k + 1) = j by omega]; simp
  rw [e1, e2]
  have hR : (List.replicate q 0).length = q := by simp
  generalize List.replicate q 0 = R at *
  generalize List.replicate j 0 = T at *
  clear e1 e2 hj
  subst hR hm
  rw [set_mid, show m.length = m.length + 0 from rfl, set_mid, List.set_cons_zero, Nat.add_assoc, set_mid, Nat.add_zero, set_mid, List.set_cons_succ, List.set_cons_zero]
theorem upO_next {q k n : Nat} {m : List Nat} {h : Nat} (hm : m.length = k) (hk : k < n) : (upO q k n m h)[q + k + 1]? = some 0 := by
  unfold upO
  obtain ⟨j, hj⟩ : ∃ j, n - k = j + 1 := ⟨n - k - 1, by omega⟩
  rw [hj, List.replicate_succ, List.getElem?_append_right (by simp; omega), List.getElem?_append_right (by simp; omega)]
  simp [hm, show q + k + 1 - q - k = 1 by omega]
theorem upO_start (q n : Nat) : upO q 0 n [] 0 = List.replicate (q + n + 1) 0 := by
  unfold upO
  rw [List.nil_append, Nat.sub_zero, ← List.replicate_succ, List.replicate_append_replicate]
  congr 1

/-- What holds of the limbs behind k rounds. -/
structure UpInv (l : List Nat) (s k : Nat) (m : List Nat) (h : Nat) : Prop where
  len : m.length = k
  small : Small m
  high : h < s
  eq : val (m ++ [h]) = val (l.take k) * s

theorem UpInv.start (l : List Nat) {s : Nat} (hs : 0 < s) : UpInv l s 0 [] 0 := ⟨rfl, Small.nil, hs, by simp [val]⟩

theorem or_low (h x r : Nat) (hh : h < 2 ^ r) (hr : r ≤ 64) : h ||| (x * 2 ^ r % 18446744073709551616) = h + x * 2 ^ r % 18446744073709551616 := by
  have e : x * 2 ^ r % 18446744073709551616 = 2 ^ r * (x % 2 ^ (64 - r)) := by
    rw [show (18446744073709551616 : Nat) = 2 ^ r * 2 ^ (64 - r) by rw [← Nat.pow_add, show r + (64 - r) = 64 by omega], Nat.mul_comm x, Nat.mul_mod_mul_left]
  rw [e, Nat.or_comm, ← Nat.two_pow_add_eq_or_of_lt hh, Nat.add_comm]

theorem UpInv.step {l : List Nat} {r k : Nat} {m : List Nat} {h : Nat} (hi : UpInv l (2 ^ r) k m h) (hk : k < l.length) (hl : Small l) (hr : r < 64) :
    UpInv l (2 ^ r) (k + 1) (m ++ [h + l[k] * 2 ^ r % 18446744073709551616]) (l[k] * 2 ^ r / 18446744073709551616) := by
  have hx := hl.get hk
  have hw : (18446744073709551616 : Nat) = 2 ^ r * 2 ^ (64 - r) := by rw [← Nat.pow_add, show r + (64 - r) = 64 by omega]
  have h2 : 0 < 2 ^ r := Nat.pow_pos (by omega)
  have hlow : h + l[k] * 2 ^ r % 18446744073709551616 < 18446744073709551616 := by
    have e : l[k] * 2 ^ r % 18446744073709551616 = 2 ^ r * (l[k] % 2 ^ (64 - r)) := by rw [hw, Nat.mul_comm l[k], Nat.mul_mod_mul_left]
    have hm : l[k] % 2 ^ (64 - r) < 2 ^ (64 - r) := Nat.mod_lt _ (Nat.pow_pos (by omega))
    have hh := hi.high
    rw [e]
    calc h + 2 ^ r * (l[k] % 2 ^ (64 - r)) < 2 ^ r * 1 + 2 ^ r * (l[k] % 2 ^ (64 - r)) := by omega
      _ = 2 ^ r * (l[k] % 2 ^ (64 - r) + 1) := by rw [← Nat.mul_add, Nat.add_comm]
      _ ≤ 2 ^ r * 2 ^ (64 - r) := Nat.mul_le_mul_left _ hm
      _ = 18446744073709551616 := hw.symm
  refine ⟨by simp [hi.len], hi.small.append (Small.cons hlow Small.nil), ?_, ?_⟩
  · rw [Nat.div_lt_iff_lt_mul (by omega), Nat.mul_comm]
    exact Nat.mul_lt_mul_of_pos_left hx h2
  · have e := hi.eq
    have ht : l.take (k + 1) = l.take k ++ [l[k]] := by rw [List.take_succ_eq_append_getElem hk]
    have hlk : (l.take k).length = k := by rw [List.length_take]; omega
    rw [val_append, hi.len] at e
    rw [ht, val_append (l.take k), hlk, val_append, val_append, List.length_append, hi.len]
    have hd := Nat.div_add_mod (l[k] * 2 ^ r) 18446744073709551616
    simp only [val, List.length_cons, List.length_nil, Nat.pow_add, Nat.mul_zero, Nat.add_zero] at e ⊢
    generalize l[k] * 2 ^ r / 18446744073709551616 = hi' at *
    generalize l[k] * 2 ^ r % 18446744073709551616 = lo' at *
    grind

theorem UpInv.done {l : List Nat} {q r : Nat} {m : List Nat} {h : Nat} (hi : UpInv l (2 ^ r) l.length m h) (hr : r < 64) : Small (upO q l.length l.length m h) ∧ val (upO q l.length l.length m h) = val l * 2 ^ (64 * q + r) := by
  have hh := hi.high
  have h2 : 2 ^ r ≤ 2 ^ 64 := Nat.pow_le_pow_right (by omega) (by omega)
  have e := hi.eq
  rw [List.take_length] at e
  unfold upO
  rw [Nat.sub_self, List.replicate_zero]
  refine ⟨(Small.replicate0 _).append (hi.small.append (Small.cons (by omega) Small.nil)), ?_⟩
  rw [val_append, val_replicate0, e, List.length_replicate, W_pow, Nat.pow_add]
  grind

end Go.Proofs.Ytodcjaobbnjikab
