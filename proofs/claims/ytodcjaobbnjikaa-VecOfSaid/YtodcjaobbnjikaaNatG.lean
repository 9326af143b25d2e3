/-
  The contract of nat.Up. No conditions but that a number has at most 900,000 limbs.
-/
import Derived.Test.YtodcjaobbnjikaaNatF
namespace Go.Proofs.Ytodcjaobbnjikaa
open Go.RowKit
set_option linter.unusedVariables false
set_option linter.unusedSimpArgs false

/-- How a shifted number stands in memory behind k rounds. -/
def upO (q k n : Nat) (m : List Nat) (h : Nat) : List Nat := List.replicate q 0 ++ (m ++ h :: List.replicate (n - k) 0)

theorem upO_length {q k n : Nat} {m : List Nat} {h : Nat} (hm : m.length = k) (hk : k ≤ n) : (upO q k n m h).length = q + n + 1 := by
  simp [upO, hm]; omega
theorem upO_at {q k n : Nat} {m : List Nat} {h : Nat} (hm : m.length = k) : (upO q k n m h)[q + k]? = some h := by
  unfold upO
  rw [List.getElem?_append_right (by simp)]
  simp only [List.length_replicate, Nat.add_sub_cancel_left]
  rw [List.getElem?_append_right (by omega)]
  simp [hm]
theorem set_mid (R X : List Nat) (i a : Nat) : (R ++ X).set (R.length + i) a = R ++ X.set i a := by
  rw [List.set_append_right _ _ (by omega), Nat.add_sub_cancel_left]
theorem upO_step {q k n : Nat} {m : List Nat} {h a b : Nat} (hm : m.length = k) (hk : k < n) : ((upO q k n m h).set (q + k) a).set (q + k + 1) b = upO q (k + 1) n (m ++ [a]) b := by
  obtain ⟨j, hj⟩ : ∃ j, n - k = j + 1 := ⟨n - k - 1, by omega⟩
  have e1 : upO q k n m h = List.replicate q 0 ++ (m ++ (h :: 0 :: List.replicate j 0)) := by unfold upO; rw [hj, List.replicate_succ]
  have e2 : upO q (k + 1) n (m ++ [a]) b = List.replicate q 0 ++ (m ++ (a :: b :: List.replicate j 0)) := by unfold upO; rw [show n - (k + 1) = j by omega]; simp
  rw [e1, e2]
  have hR : (List.replicate q 0).length = q := by simp
  generalize List.replicate q 0 = R at *
  generalize List.replicate j 0 = T at *
  clear e1 e2 hj
  subst hR hm
  rw [set_mid, show m.length = m.length + 0 from rfl, set_mid, List.set_cons_zero, Nat.add_assoc, set_mid, Nat.add_zero, set_mid, List.set_cons_succ, List.set_cons_zero]
theorem upO_next {q k n : Nat} {m : List Nat} {h : Nat} (hm : m.length = k) (hk : k < n) : (upO q k n m h)[q + k + 1]? = some 0 := by
  unfold upO
  obtain ⟨j, hj⟩ : ∃ j, n - k = j + 1 := ⟨n - k - 1, by omega⟩
  rw [hj, List.replicate_succ, List.getElem?_append_right (by simp; omega), List.getElem?_append_right (by simp; omega)]
  simp [hm, show q + k + 1 - q - k = 1 by omega]
theorem upO_start (q n : Nat) : upO q 0 n [] 0 = List.replicate (q + n + 1) 0 := by
  unfold upO
  rw [List.nil_append, Nat.sub_zero, ← List.replicate_succ, List.replicate_append_replicate]
  congr 1

/-- What holds of the limbs behind k rounds. -/
structure UpInv (l : List Nat) (s k : Nat) (m : List Nat) (h : Nat) : Prop where
  len : m.length = k
  small : Small m
  high : h < s
  eq : val (m ++ [h]) = val (l.take k) * s

theorem UpInv.start (l : List Nat) {s : Nat} (hs : 0 < s) : UpInv l s 0 [] 0 := ⟨rfl, Small.nil, hs, by simp [val]⟩

theorem or_low (h x r : Nat) (hh : h < 2 ^ r) (hr : r ≤ 64) : h ||| (x * 2 ^ r % 18446744073709551616) = h + x * 2 ^ r % 18446744073709551616 := by
  have e : x * 2 ^ r % 18446744073709551616 = 2 ^ r * (x % 2 ^ (64 - r)) := by
    rw [show (18446744073709551616 : Nat) = 2 ^ r * 2 ^ (64 - r) by rw [← Nat.pow_add, show r + (64 - r) = 64 by omega], Nat.mul_comm x, Nat.mul_mod_mul_left]
  rw [e, Nat.or_comm, ← Nat.two_pow_add_eq_or_of_lt hh, Nat.add_comm]

theorem UpInv.step {l : List Nat} {r k : Nat} {m : List Nat} {h : Nat} (hi : UpInv l (2 ^ r) k m h) (hk : k < l.length) (hl : Small l) (hr : r < 64) :
    UpInv l (2 ^ r) (k + 1) (m ++ [h + l[k] * 2 ^ r % 18446744073709551616]) (l[k] * 2 ^ r / 18446744073709551616) := by
  have hx := hl.get hk
  have hw : (18446744073709551616 : Nat) = 2 ^ r * 2 ^ (64 - r) := by rw [← Nat.pow_add, show r + (64 - r) = 64 by omega]
  have h2 : 0 < 2 ^ r := Nat.pow_pos (by omega)
  have hlow : h + l[k] * 2 ^ r % 18446744073709551616 < 18446744073709551616 := by
    have e : l[k] * 2 ^ r % 18446744073709551616 = 2 ^ r * (l[k] % 2 ^ (64 - r)) := by rw [hw, Nat.mul_comm l[k], Nat.mul_mod_mul_left]
    have hm : l[k] % 2 ^ (64 - r) < 2 ^ (64 - r) := Nat.mod_lt _ (Nat.pow_pos (by omega))
    have hh := hi.high
    rw [e]
    calc h + 2 ^ r * (l[k] % 2 ^ (64 - r)) < 2 ^ r * 1 + 2 ^ r * (l[k] % 2 ^ (64 - r)) := by omega
      _ = 2 ^ r * (l[k] % 2 ^ (64 - r) + 1) := by rw [← Nat.mul_add, Nat.add_comm]
      _ ≤ 2 ^ r * 2 ^ (64 - r) := Nat.mul_le_mul_left _ hm
      _ = 18446744073709551616 := hw.symm
  refine ⟨by simp [hi.len], hi.small.append (Small.cons hlow Small.nil), ?_, ?_⟩
  · rw [Nat.div_lt_iff_lt_mul (by omega), Nat.mul_comm]
    exact Nat.mul_lt_mul_of_pos_left hx h2
  · have e := hi.eq
    have ht : l.take (k + 1) = l.take k ++ [l[k]] := by rw [List.take_succ_eq_append_getElem hk]
    have hlk : (l.take k).length = k := by rw [List.length_take]; omega
    rw [val_append, hi.len] at e
    rw [ht, val_append (l.take k), hlk, val_append, val_append, List.length_append, hi.len]
    have hd := Nat.div_add_mod (l[k] * 2 ^ r) 18446744073709551616
    simp only [val, List.length_cons, List.length_nil, Nat.pow_add, Nat.mul_zero, Nat.add_zero] at e ⊢
    generalize l[k] * 2 ^ r / 18446744073709551616 = hi' at *
    generalize l[k] * 2 ^ r % 18446744073709551616 = lo' at *
    grind

theorem UpInv.done {l : List Nat} {q r : Nat} {m : List Nat} {h : Nat} (hi : UpInv l (2 ^ r) l.length m h) (hr : r < 64) : Small (upO q l.length l.length m h) ∧ val (upO q l.length l.length m h) = val l * 2 ^ (64 * q + r) := by
  have hh := hi.high
  have h2 : 2 ^ r ≤ 2 ^ 64 := Nat.pow_le_pow_right (by omega) (by omega)
  have e := hi.eq
  rw [List.take_length] at e
  unfold upO
  rw [Nat.sub_self, List.replicate_zero]
  refine ⟨(Small.replicate0 _).append (hi.small.append (Small.cons (by omega) Small.nil)), ?_⟩
  rw [val_append, val_replicate0, e, List.length_replicate, W_pow, Nat.pow_add]
  grind

set_option maxHeartbeats 800000 in
theorem asked_good {w : World} {Z : Zone} {A : Option Addr} {c n b : Nat} (ha : U64s w Z A c (limbs n)) (hb : b ≤ 65536) :
    Calls Try.prog 72 #[.slice A (limbs n).length c, .int .i64 (b : Int)] w fun e w' => e = .returned (.int .i64 0) ∧ w = w' := by
  have hg := Lib.hid (good_limbs n)
  have h1 : decide ((b : Int) < 0) = false := by simp
  have h2 : decide ((65536 : Int) < (b : Int)) = false := by simp; omega
  go_enter Try.func72, Try.ntmps72
  go_wp2_with (go_at_call 28; refine (check_good ha hg.out).mono ?_; rintro e w' ⟨rfl, rfl⟩)
  go_ret
  exact ⟨rfl, rfl⟩

set_option maxRecDepth 100000 in
set_option maxHeartbeats 2000000 in
theorem up_good {w : World} {Z : Zone} {a : Value} {n b : Nat} (ha : IsN w Z a n) (hl : (limbs n).length ≤ 900000) (hb : b ≤ 65536) :
    Calls Try.prog 35 #[a, .int .i64 (b : Int)] w fun e w' => ∃ v, e = .returned (.tuple #[v, .int .i64 0]) ∧ IsN w' (new w.heap.size) v (n * 2 ^ b) ∧ Below w.heap.size w w' := by
  obtain ⟨A, c, rfl, ha⟩ := ha
  obtain ⟨q, hq⟩ : ∃ q : Nat, q = b / 64 := ⟨_, rfl⟩
  obtain ⟨r, hr⟩ : ∃ r : Nat, r = b % 64 := ⟨_, rfl⟩
  have hbq : b = 64 * q + r := by omega
  have hr64 : r < 64 := by omega
  have hq64 : q ≤ 1024 := by omega
  have eq' : (b : Int) / 64 = (q : Int) := by omega
  have er' : (b : Int) % 64 = (r : Int) := by omega
  have Hbq := Lib.hid hbq
  clear hq hr hbq
  obtain ⟨i0, hi, hz0, hz1, hz2⟩ := info_parts Try.info62
  obtain ⟨L, hL⟩ : ∃ L : Nat, L = (limbs n).length := ⟨_, rfl⟩
  have HL := Lib.hid hL
  have hL1 : L ≤ 900000 := by omega
  have haL : U64s w Z A c (limbs n) := ha
  have hask := asked_good ha hb
  rw [← hL] at hask ⊢
  have Hask := Lib.hid hask
  clear hL hask
  go_enter Try.func35, Try.ntmps35
  go_wp2_with (first | (go_at_call 72; refine Hask.out.mono ?_; rintro e w' ⟨rfl, rfl⟩) | (at_make; go_loud (refine wpList_make_full _ rfl _ _ 46 rfl w.heap.size 62 i0 (.int .u64 0) 1 Try.underlying46 hi hz0 hz1 .i64 .i64 _ _ (q + L + 1) rfl rfl (by omega) (by omega) (by rw [hz2]; omega) (by simp only [maxLen]; omega) (Nat.le_refl _) ?_); intro w1 hown hgrow))
  have hown0 : w1.ownsRow w.heap.size 62 1 (.slice (some ⟨w.heap.size, 0, none⟩) (q + L + 1) (q + L + 1)) (q + L + 1) ((upO q 0 L [] 0).map fun x : Nat => Value.int .u64 (x : Int)) := by
    rw [upO_start, List.map_replicate]
    rw [Nat.mul_one] at hown
    simpa [Value.cells, toList_madeCells_one] using hown
  have hbel1 : Below w.heap.size w w1 := (Below.refl _ w).grown hgrow (Nat.le_refl _) (fun k h => by cases h)
  clear hown hgrow
  have hs2 : 0 < 2 ^ r := Nat.pow_pos (by omega)
  go_loopw [27] (fun i wr => ∃ (k : Nat) (m : List Nat) (h : Nat), k ≤ L ∧ i = .int .i64 k ∧ wr.ownsRow w.heap.size 62 1 (.slice (some ⟨w.heap.size, 0, none⟩) (q + L + 1) (q + L + 1)) (q + L + 1) ((upO q k L m h).map fun x : Nat => Value.int .u64 (x : Int)) ∧ UpInv (limbs n) (2 ^ r) k m h ∧ Below w.heap.size w wr)
    (fun i _ => L - (intOf i).toNat)
  case atStart => exact ⟨0, [], 0, Nat.zero_le _, rfl, hown0, UpInv.start _ hs2, hbel1⟩
  case round =>
    obtain ⟨k, m, top, hk, rfl, hown, hinv, hbel⟩ := hrel
    by_cases hlt : k < L
    · have hkl : k < (limbs n).length := by rw [← HL.out]; exact hlt
      obtain ⟨b1, o1, rfl, _, hb1, _, hc1⟩ := haL.open (by omega)
      have hx := (hbel.cell (p := ⟨b1, o1 + k, none⟩) hb1).trans (hc1 k hkl)
      have hxl := haL.small.get hkl
      have hsp : 2 ^ r < 18446744073709551616 := by
        have : 2 ^ r < 2 ^ 64 := Nat.pow_lt_pow_right (by omega) hr64
        exact this
      have hstep := hinv.step hkl haL.small hr64
      have hor := or_low top (limbs n)[k] r hinv.high (by omega)
      have hmk := hinv.len
      have hat := upO_at (q := q) (n := L) (h := top) hmk
      have hst := fun a b => upO_step (q := q) (n := L) (h := top) (a := a) (b := b) hmk hlt
      have Hstep := Lib.hid hstep
      have Hor := Lib.hid hor
      have Hst := Lib.hid hst
      have hcell := hown.cellAt (q + k) (by omega)
      rw [List.getElem?_map, hat] at hcell
      have hfr := hown.frozenAt (q + k)
      have hcell2 := hown.cellAt (q + k + 1) (by omega)
      rw [List.getElem?_map, upO_next hmk hlt] at hcell2
      have hcell2' : wr.cell? ⟨w.heap.size, q + k + 1, none⟩ = some (.int .u64 0) := hcell2
      have hfr2 := hown.frozenAt (q + k + 1)
      clear hcell2
      have hh64 : top < 18446744073709551616 := by have := hinv.high; omega
      clear hstep hor hst hat hmk hc1 hinv
      have hcell' : wr.cell? ⟨w.heap.size, q + k, none⟩ = some (.int .u64 (top : Int)) := hcell
      clear hcell
      have hkL : q + k < q + L + 1 := by omega
      have hmul := fun w => bits_Mul64 (limbs n)[k] (2 ^ r) hxl hsp w
      generalize (limbs n)[k] = x at *
      obtain ⟨s, hs⟩ : ∃ s : Nat, s = 2 ^ r := ⟨_, rfl⟩
      have hw2 : IntKind.u64.wrap ((2 : Int) ^ r) = (s : Int) := by rw [hs, IntKind.wrap_u64]; rw [show ((2 : Int) ^ r) = ((2 ^ r : Nat) : Int) by simp]; omega
      rw [← hs] at hmul
      rw [← hs] at Hor Hstep hsp
      have Hs2r := Lib.hid hs
      clear hs hs2
      go_wp2_with fail
      refine (hmul _).mono ?_
      rintro e w' ⟨rfl, rfl⟩
      clear hmul hw2
      have hp1 : x * s / 18446744073709551616 < 18446744073709551616 := by have := Hstep.out.high; omega
      have hp2 : x * s % 18446744073709551616 < 18446744073709551616 := Nat.mod_lt _ (by omega)
      generalize x * s / 18446744073709551616 = hi1 at *
      generalize x * s % 18446744073709551616 = lo1 at *
      go_wp2
      have hbits : bits BinOp.or IntKind.u64 (top : Int) (lo1 : Int) = ((top + lo1 : Nat) : Int) := by rw [bits_or_u64_nat top lo1 hh64 hp2, Hor.out]
      rw [hbits]
      have o1 := hown.stored (q + k) (.int .u64 ((top + lo1 : Nat) : Int))
      have o2 := o1.1.stored (q + k + 1) (.int .u64 (hi1 : Int))
      go_roundw
      case rel =>
        refine ⟨k + 1, _, _, by omega, by go_num, ?_, (by rw [← Hs2r.out]; exact Hstep.out), (hbel.setCell (p := ⟨w.heap.size, q + k, none⟩) (Nat.le_refl _) _).setCell (p := ⟨w.heap.size, q + k + 1, none⟩) (Nat.le_refl _) _⟩
        rw [← Hst.out, List.map_set, List.map_set]
        exact o2.1
      case measure => simp [intOf]; omega
    · obtain rfl : k = L := by omega
      have hinv' : UpInv (limbs n) (2 ^ r) (limbs n).length m top := by rw [← HL.out]; exact hinv
      obtain ⟨hsm, hv⟩ := hinv'.done (q := q) hr64
      rw [← HL.out] at hsm hv
      have hlen := upO_length (q := q) (h := top) hinv.len (Nat.le_refl k)
      have hu := isU_after (B := w.heap.size) hsm hlen.symm hown (Nat.le_refl _)
      have Hv := Lib.hid hv
      have Hlen := Lib.hid hlen.symm
      clear hv hlen hinv hinv' hown0
      go_wp2_with (go_at_call 66; refine (trim_len hu Hlen.out).mono ?_; rintro e w' ⟨rfl, rfl⟩)
      go_ret2
      refine ⟨_, rfl, isN_trimU ?_ hu, hbel⟩
      rw [Hv.out, val_limbs, Hbq.out]

end Go.Proofs.Ytodcjaobbnjikaa
