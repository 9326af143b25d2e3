/-
  The contracts of nat.Long, nat.Bit and nat.Word. No conditions but that a number has at most a million limbs.
  The contract of nat.Up. No conditions but that a number has at most 900,000 limbs.
  The document's own answer, layer 1: its small functions. No conditions.
-/
import Derived.Test.YthdmfggcfkeenaaZNatE
import Derived.Test.YthdmfggcfkeenaaZSize
import Derived.Test.YthdmfggcfkeenaaZBits
namespace Go.Proofs.Ythdmfggcfkeenaa
open Go.RowKit
set_option linter.unusedVariables false
set_option linter.unusedSimpArgs false

theorem ret2_int {k : IntKind} {a b : Int} {v : Value} (h : a = b) : Ending.returned (.tuple #[.int k a, v]) = .returned (.tuple #[.int k b, v]) := by rw [h]

set_option maxHeartbeats 800000 in
theorem long_good {w : World} {Z : Zone} {a : Value} {n : Nat} (ha : IsN w Z a n) (hl : (limbs n).length ≤ 900000) :
    Calls Try.prog 20 #[a] w fun e w' => e = .returned (.tuple #[.int .i64 (size n : Int), .int .i64 0]) ∧ w = w' := by
  obtain ⟨A, c, rfl, ha⟩ := ha
  have hg := Lib.hid (good_limbs n)
  rcases Nat.eq_zero_or_pos (limbs n).length with h0 | h0
  · have hz : n = 0 := limbs_eq_nil.1 (List.length_eq_zero_iff.1 h0)
    have hs : size n = 0 := size_eq_zero.2 hz
    have Hs := Lib.hid hs
    have hd : (((limbs n).length : Int) == 0) = true := by rw [h0]; rfl
    clear hz hs h0
    go_enter Try.func20, Try.ntmps20
    go_wp2_with (go_at_call 33; refine (check_good ha hg.out).mono ?_; rintro e w' ⟨rfl, rfl⟩)
    go_ret2
    rw [Hs.out]
    exact ⟨rfl, rfl⟩
  · obtain ⟨b, o, rfl, _, _, _, hc⟩ := ha.open h0
    have hk : (limbs n).length - 1 < (limbs n).length := by omega
    have hx := hc ((limbs n).length - 1) hk
    have hd : (((limbs n).length : Int) == 0) = false := beq_eq_false_iff_ne.2 (by omega)
    have hxl := ha.small.get (j := (limbs n).length - 1) hk
    obtain ⟨hs, hne⟩ := size_top h0
    clear hne
    have Ha := Lib.hid ha
    clear ha hc
    generalize (limbs n)[(limbs n).length - 1] = x at *
    have hb : size x ≤ 64 := size_le_of (by omega)
    have hbl := bitLen_size x hxl
    have Hs := Lib.hid hs
    clear hs
    go_enter Try.func20, Try.ntmps20
    go_wp2_with (first | (go_at_call 33; refine (check_good Ha.out hg.out).mono ?_; rintro e w' ⟨rfl, rfl⟩) | (go_at_call 70; refine (bits_len64 x _ hxl).mono ?_; rintro e w' ⟨rfl, rfl⟩))
    go_ret2
    refine ⟨ret2_int ?_, rfl⟩
    rw [Hs.out]
    omega

theorem bit_word (x k : Nat) (hx : x < 18446744073709551616) : wrap64 (bits BinOp.and IntKind.u64 ((x : Int) / 2 ^ k) 1) = ((x / 2 ^ k % 2 : Nat) : Int) := by
  have e : (x : Int) / 2 ^ k = ((x / 2 ^ k : Nat) : Int) := by simp
  have hl : x / 2 ^ k < 18446744073709551616 := Nat.lt_of_le_of_lt (Nat.div_le_self _ _) hx
  have h := bits_and_u64_nat (x / 2 ^ k) 1 hl (by omega)
  rw [e]
  rw [show ((1 : Nat) : Int) = 1 from rfl] at h
  rw [h, Nat.and_one_is_mod]
  unfold wrap64
  omega

theorem bad_two {w : World} {Z : Zone} {a : Value} {l : List Nat} (ha : IsU w Z a l) (hg : good l = false) : ∃ A c, a = .slice A l.length c ∧ U64s w Z A c l := ha

set_option maxHeartbeats 800000 in
theorem long_bad {w : World} {Z : Zone} {a : Value} {l : List Nat} (ha : IsU w Z a l) (hg : good l = false) :
    Calls Try.prog 20 #[a] w fun e w' => e = .returned (.tuple #[.int .i64 0, .int .i64 8]) ∧ w = w' := by
  obtain ⟨A, c, rfl, ha⟩ := ha
  have Hg := Lib.hid hg
  clear hg
  go_enter Try.func20, Try.ntmps20
  go_wp2_with (go_at_call 33; refine (check_bad ha Hg.out).mono ?_; rintro e w' ⟨rfl, rfl⟩)
  go_ret2
  exact ⟨rfl, rfl⟩

set_option maxHeartbeats 800000 in
theorem bit_good {w : World} {Z : Zone} {a : Value} {n i : Nat} (ha : IsN w Z a n) (hi : i ≤ 9223372036854775807) :
    Calls Try.prog 88 #[a, .int .i64 (i : Int)] w fun e w' => e = .returned (.tuple #[.int .i64 ((n / 2 ^ i % 2 : Nat) : Int), .int .i64 0]) ∧ w = w' := by
  obtain ⟨A, c, rfl, ha⟩ := ha
  have hg := Lib.hid (good_limbs n)
  have hlen := ha.len
  by_cases h : i / 64 < (limbs n).length
  · obtain ⟨b, o, rfl, _, _, _, hc⟩ := ha.open (by omega)
    have hx := hc (i / 64) h
    have hlb := bit_limb n i
    rw [← limb_at h] at hlb
    have hxl := ha.small.get (j := i / 64) h
    have Ha := Lib.hid ha
    clear ha hc
    generalize (limbs n)[i / 64] = x at *
    have Hlb := Lib.hid hlb
    clear hlb
    go_enter Try.func88, Try.ntmps88
    go_wp2_with (go_at_call 33; refine (check_good Ha.out hg.out).mono ?_; rintro e w' ⟨rfl, rfl⟩)
    go_ret2
    refine ⟨ret2_int ?_, rfl⟩
    rw [← Hlb.out, ← bit_word x (i % 64) hxl]
  · have hz := Lib.hid (bit_limb_beyond (n := n) (i := i) (by omega))
    go_enter Try.func88, Try.ntmps88
    go_wp2_with (go_at_call 33; refine (check_good ha hg.out).mono ?_; rintro e w' ⟨rfl, rfl⟩)
    go_ret2
    rw [hz.out]
    exact ⟨rfl, rfl⟩

end Go.Proofs.Ythdmfggcfkeenaa

namespace Go.Proofs.Ythdmfggcfkeenaa
open Go.RowKit
set_option linter.unusedVariables false
set_option linter.unusedSimpArgs false

/-- How a shifted number stands in memory behind k rounds. -/
def upO (q k n : Nat) (m : List Nat) (h : Nat) : List Nat := List.replicate q 0 ++ (m ++ h :: List.replicate (n - k) 0)

theorem upO_length {q k n : Nat} {m : List Nat} {h : Nat} (hm : m.length = k) (hk : k ≤ n) : (upO q k n m h).length = q + n + 1 := by
  simp [upO, hm]; omega
theorem upO_at {q k n : Nat} {m : List Nat} {h : Nat} (hm : m.length = k) : (upO q k n m h)[q + k]? = some h := by
  unfold upO
  rw [List.getElem?_append_right (by simp)]
  simp only [List.length_replicate, Nat.add_sub_cancel_left]
  rw [List.getElem?_append_right (by omega)]
  simp [hm]
theorem set_mid (R X : List Nat) (i a : Nat) : (R ++ X).set (R.length + i) a = R ++ X.set i a := by
  rw [List.set_append_right _ _ (by omega), Nat.add_sub_cancel_left]
theorem upO_step {q k n : Nat} {m : List Nat} {h a b : Nat} (hm : m.length = k) (hk : k < n) : ((upO q k n m h).set (q + k) a).set (q + k + 1) b = upO q (k + 1) n (m ++ [a]) b := by
  obtain ⟨j, hj⟩ : ∃ j, n - k = j + 1 := ⟨n - k - 1, by omega⟩
  have e1 : upO q k n m h = List.replicate q 0 ++ (m ++ (h :: 0 :: List.replicate j 0)) := by unfold upO; rw [hj, List.replicate_succ]
  have e2 : upO q (k + 1) n (m ++ [a]) b = List.replicate q 0 ++ (m ++ (a :: b :: List.replicate j 0)) := by unfold upO; rw [show n - (k + 1) = j by omega]; simp
  rw [e1, e2]
  have hR : (List.replicate q 0).length = q := by simp
  generalize List.replicate q 0 = R at *
  generalize List.replicate j 0 = T at *
  clear e1 e2 hj
  subst hR hm
  rw [set_mid, show m.length = m.length + 0 from rfl, set_mid, List.set_cons_zero, Nat.add_assoc, set_mid, Nat.add_zero, set_mid, List.set_cons_succ, List.set_cons_zero]
theorem upO_next {q k n : Nat} {m : List Nat} {h : Nat} (hm : m.length = k) (hk : k < n) : (upO q k n m h)[q + k + 1]? = some 0 := by
  unfold upO
  obtain ⟨j, hj⟩ : ∃ j, n - k = j + 1 := ⟨n - k - 1, by omega⟩
  rw [hj, List.replicate_succ, List.getElem?_append_right (by simp; omega), List.getElem?_append_right (by simp; omega)]
  simp [hm, show q + k + 1 - q - k = 1 by omega]
theorem upO_start (q n : Nat) : upO q 0 n [] 0 = List.replicate (q + n + 1) 0 := by
  unfold upO
  rw [List.nil_append, Nat.sub_zero, ← List.replicate_succ, List.replicate_append_replicate]
  congr 1

/-- What holds of the limbs behind k rounds. -/
structure UpInv (l : List Nat) (s k : Nat) (m : List Nat) (h : Nat) : Prop where
  len : m.length = k
  small : Small m
  high : h < s
  eq : val (m ++ [h]) = val (l.take k) * s

theorem UpInv.start (l : List Nat) {s : Nat} (hs : 0 < s) : UpInv l s 0 [] 0 := ⟨rfl, Small.nil, hs, by simp [val]⟩

theorem or_low (h x r : Nat) (hh : h < 2 ^ r) (hr : r ≤ 64) : h ||| (x * 2 ^ r % 18446744073709551616) = h + x * 2 ^ r % 18446744073709551616 := by
  have e : x * 2 ^ r % 18446744073709551616 = 2 ^ r * (x % 2 ^ (64 - r)) := by
    rw [show (18446744073709551616 : Nat) = 2 ^ r * 2 ^ (64 - r) by rw [← Nat.pow_add, show r + (64 - r) = 64 by omega], Nat.mul_comm x, Nat.mul_mod_mul_left]
  rw [e, Nat.or_comm, ← Nat.two_pow_add_eq_or_of_lt hh, Nat.add_comm]

theorem UpInv.step {l : List Nat} {r k : Nat} {m : List Nat} {h : Nat} (hi : UpInv l (2 ^ r) k m h) (hk : k < l.length) (hl : Small l) (hr : r < 64) :
    UpInv l (2 ^ r) (k + 1) (m ++ [h + l[k] * 2 ^ r % 18446744073709551616]) (l[k] * 2 ^ r / 18446744073709551616) := by
  have hx := hl.get hk
  have hw : (18446744073709551616 : Nat) = 2 ^ r * 2 ^ (64 - r) := by rw [← Nat.pow_add, show r + (64 - r) = 64 by omega]
  have h2 : 0 < 2 ^ r := Nat.pow_pos (by omega)
  have hlow : h + l[k] * 2 ^ r % 18446744073709551616 < 18446744073709551616 := by
    have e : l[k] * 2 ^ r % 18446744073709551616 = 2 ^ r * (l[k] % 2 ^ (64 - r)) := by rw [hw, Nat.mul_comm l[k], Nat.mul_mod_mul_left]
    have hm : l[k] % 2 ^ (64 - r) < 2 ^ (64 - r) := Nat.mod_lt _ (Nat.pow_pos (by omega))
    have hh := hi.high
    rw [e]
    calc h + 2 ^ r * (l[k] % 2 ^ (64 - r)) < 2 ^ r * 1 + 2 ^ r * (l[k] % 2 ^ (64 - r)) := by omega
      _ = 2 ^ r * (l[k] % 2 ^ (64 - r) + 1) := by rw [← Nat.mul_add, Nat.add_comm]
      _ ≤ 2 ^ r * 2 ^ (64 - r) := Nat.mul_le_mul_left _ hm
      _ = 18446744073709551616 := hw.symm
  refine ⟨by simp [hi.len], hi.small.append (Small.cons hlow Small.nil), ?_, ?_⟩
  · rw [Nat.div_lt_iff_lt_mul (by omega), Nat.mul_comm]
    exact Nat.mul_lt_mul_of_pos_left hx h2
  · have e := hi.eq
    have ht : l.take (k + 1) = l.take k ++ [l[k]] := by rw [List.take_succ_eq_append_getElem hk]
    have hlk : (l.take k).length = k := by rw [List.length_take]; omega
    rw [val_append, hi.len] at e
    rw [ht, val_append (l.take k), hlk, val_append, val_append, List.length_append, hi.len]
    have hd := Nat.div_add_mod (l[k] * 2 ^ r) 18446744073709551616
    simp only [val, List.length_cons, List.length_nil, Nat.pow_add, Nat.mul_zero, Nat.add_zero] at e ⊢
    generalize l[k] * 2 ^ r / 18446744073709551616 = hi' at *
    generalize l[k] * 2 ^ r % 18446744073709551616 = lo' at *
    grind

theorem UpInv.done {l : List Nat} {q r : Nat} {m : List Nat} {h : Nat} (hi : UpInv l (2 ^ r) l.length m h) (hr : r < 64) : Small (upO q l.length l.length m h) ∧ val (upO q l.length l.length m h) = val l * 2 ^ (64 * q + r) := by
  have hh := hi.high
  have h2 : 2 ^ r ≤ 2 ^ 64 := Nat.pow_le_pow_right (by omega) (by omega)
  have e := hi.eq
  rw [List.take_length] at e
  unfold upO
  rw [Nat.sub_self, List.replicate_zero]
  refine ⟨(Small.replicate0 _).append (hi.small.append (Small.cons (by omega) Small.nil)), ?_⟩
  rw [val_append, val_replicate0, e, List.length_replicate, W_pow, Nat.pow_add]
  grind

set_option maxHeartbeats 800000 in
theorem asked_good {w : World} {Z : Zone} {A : Option Addr} {c n b : Nat} (ha : U64s w Z A c (limbs n)) (hb : b ≤ 65536) :
    Calls Try.prog 71 #[.slice A (limbs n).length c, .int .i64 (b : Int)] w fun e w' => e = .returned (.int .i64 0) ∧ w = w' := by
  have hg := Lib.hid (good_limbs n)
  have h1 : decide ((b : Int) < 0) = false := by simp
  have h2 : decide ((65536 : Int) < (b : Int)) = false := by simp; omega
  go_enter Try.func71, Try.ntmps71
  go_wp2_with (go_at_call 33; refine (check_good ha hg.out).mono ?_; rintro e w' ⟨rfl, rfl⟩)
  go_ret
  exact ⟨rfl, rfl⟩

set_option maxRecDepth 100000 in
set_option maxHeartbeats 2000000 in
theorem up_good {w : World} {Z : Zone} {a : Value} {n b : Nat} (ha : IsN w Z a n) (hl : (limbs n).length ≤ 900000) (hb : b ≤ 65536) :
    Calls Try.prog 21 #[a, .int .i64 (b : Int)] w fun e w' => ∃ v, e = .returned (.tuple #[v, .int .i64 0]) ∧ IsN w' (new w.heap.size) v (n * 2 ^ b) ∧ Below w.heap.size w w' := by
  obtain ⟨A, c, rfl, ha⟩ := ha
  obtain ⟨q, hq⟩ : ∃ q : Nat, q = b / 64 := ⟨_, rfl⟩
  obtain ⟨r, hr⟩ : ∃ r : Nat, r = b % 64 := ⟨_, rfl⟩
  have hbq : b = 64 * q + r := by omega
  have hr64 : r < 64 := by omega
  have hq64 : q ≤ 1024 := by omega
  have eq' : (b : Int) / 64 = (q : Int) := by omega
  have er' : (b : Int) % 64 = (r : Int) := by omega
  have Hbq := Lib.hid hbq
  clear hq hr hbq
  obtain ⟨i0, hi, hz0, hz1, hz2⟩ := info_parts Try.info27
  obtain ⟨L, hL⟩ : ∃ L : Nat, L = (limbs n).length := ⟨_, rfl⟩
  have HL := Lib.hid hL
  have hL1 : L ≤ 900000 := by omega
  have haL : U64s w Z A c (limbs n) := ha
  have hask := asked_good ha hb
  rw [← hL] at hask ⊢
  have Hask := Lib.hid hask
  clear hL hask
  go_enter Try.func21, Try.ntmps21
  go_wp2_with (first | (go_at_call 71; refine Hask.out.mono ?_; rintro e w' ⟨rfl, rfl⟩) | (at_make; go_loud (refine wpList_make_full _ rfl _ _ 23 rfl w.heap.size 27 i0 (.int .u64 0) 1 Try.underlying23 hi hz0 hz1 .i64 .i64 _ _ (q + L + 1) rfl rfl (by omega) (by omega) (by rw [hz2]; omega) (by simp only [maxLen]; omega) (Nat.le_refl _) ?_); intro w1 hown hgrow))
  have hown0 : w1.ownsRow w.heap.size 27 1 (.slice (some ⟨w.heap.size, 0, none⟩) (q + L + 1) (q + L + 1)) (q + L + 1) ((upO q 0 L [] 0).map fun x : Nat => Value.int .u64 (x : Int)) := by
    rw [upO_start, List.map_replicate]
    rw [Nat.mul_one] at hown
    simpa [Value.cells, toList_madeCells_one] using hown
  have hbel1 : Below w.heap.size w w1 := (Below.refl _ w).grown hgrow (Nat.le_refl _) (fun k h => by cases h)
  clear hown hgrow
  have hs2 : 0 < 2 ^ r := Nat.pow_pos (by omega)
  go_loopw [27] (fun i wr => ∃ (k : Nat) (m : List Nat) (h : Nat), k ≤ L ∧ i = .int .i64 k ∧ wr.ownsRow w.heap.size 27 1 (.slice (some ⟨w.heap.size, 0, none⟩) (q + L + 1) (q + L + 1)) (q + L + 1) ((upO q k L m h).map fun x : Nat => Value.int .u64 (x : Int)) ∧ UpInv (limbs n) (2 ^ r) k m h ∧ Below w.heap.size w wr)
    (fun i _ => L - (intOf i).toNat)
  case atStart => exact ⟨0, [], 0, Nat.zero_le _, rfl, hown0, UpInv.start _ hs2, hbel1⟩
  case round =>
    obtain ⟨k, m, top, hk, rfl, hown, hinv, hbel⟩ := hrel
    by_cases hlt : k < L
    · have hkl : k < (limbs n).length := by rw [← HL.out]; exact hlt
      obtain ⟨b1, o1, rfl, _, hb1, _, hc1⟩ := haL.open (by omega)
      have hx := (hbel.cell (p := ⟨b1, o1 + k, none⟩) hb1).trans (hc1 k hkl)
      have hxl := haL.small.get hkl
      have hsp : 2 ^ r < 18446744073709551616 := by
        have : 2 ^ r < 2 ^ 64 := Nat.pow_lt_pow_right (by omega) hr64
        exact this
      have hstep := hinv.step hkl haL.small hr64
      have hor := or_low top (limbs n)[k] r hinv.high (by omega)
      have hmk := hinv.len
      have hat := upO_at (q := q) (n := L) (h := top) hmk
      have hst := fun a b => upO_step (q := q) (n := L) (h := top) (a := a) (b := b) hmk hlt
      have Hstep := Lib.hid hstep
      have Hor := Lib.hid hor
      have Hst := Lib.hid hst
      have hcell := hown.cellAt (q + k) (by omega)
      rw [List.getElem?_map, hat] at hcell
      have hfr := hown.frozenAt (q + k)
      have hcell2 := hown.cellAt (q + k + 1) (by omega)
      rw [List.getElem?_map, upO_next hmk hlt] at hcell2
      have hcell2' : wr.cell? ⟨w.heap.size, q + k + 1, none⟩ = some (.int .u64 0) := hcell2
      have hfr2 := hown.frozenAt (q + k + 1)
      clear hcell2
      have hh64 : top < 18446744073709551616 := by have := hinv.high; omega
      clear hstep hor hst hat hmk hc1 hinv
      have hcell' : wr.cell? ⟨w.heap.size, q + k, none⟩ = some (.int .u64 (top : Int)) := hcell
      clear hcell
      have hkL : q + k < q + L + 1 := by omega
      have hmul := fun w => bits_Mul64 (limbs n)[k] (2 ^ r) hxl hsp w
      generalize (limbs n)[k] = x at *
      obtain ⟨s, hs⟩ : ∃ s : Nat, s = 2 ^ r := ⟨_, rfl⟩
      have hw2 : IntKind.u64.wrap ((2 : Int) ^ r) = (s : Int) := by rw [hs, IntKind.wrap_u64]; rw [show ((2 : Int) ^ r) = ((2 ^ r : Nat) : Int) by simp]; omega
      rw [← hs] at hmul
      rw [← hs] at Hor Hstep hsp
      have Hs2r := Lib.hid hs
      clear hs hs2
      go_wp2_with fail
      refine (hmul _).mono ?_
      rintro e w' ⟨rfl, rfl⟩
      clear hmul hw2
      have hp1 : x * s / 18446744073709551616 < 18446744073709551616 := by have := Hstep.out.high; omega
      have hp2 : x * s % 18446744073709551616 < 18446744073709551616 := Nat.mod_lt _ (by omega)
      generalize x * s / 18446744073709551616 = hi1 at *
      generalize x * s % 18446744073709551616 = lo1 at *
      go_wp2
      have hbits : bits BinOp.or IntKind.u64 (top : Int) (lo1 : Int) = ((top + lo1 : Nat) : Int) := by rw [bits_or_u64_nat top lo1 hh64 hp2, Hor.out]
      rw [hbits]
      have o1 := hown.stored (q + k) (.int .u64 ((top + lo1 : Nat) : Int))
      have o2 := o1.1.stored (q + k + 1) (.int .u64 (hi1 : Int))
      go_roundw
      case rel =>
        refine ⟨k + 1, _, _, by omega, by go_num, ?_, (by rw [← Hs2r.out]; exact Hstep.out), (hbel.setCell (p := ⟨w.heap.size, q + k, none⟩) (Nat.le_refl _) _).setCell (p := ⟨w.heap.size, q + k + 1, none⟩) (Nat.le_refl _) _⟩
        rw [← Hst.out, List.map_set, List.map_set]
        exact o2.1
      case measure => simp [intOf]; omega
    · obtain rfl : k = L := by omega
      have hinv' : UpInv (limbs n) (2 ^ r) (limbs n).length m top := by rw [← HL.out]; exact hinv
      obtain ⟨hsm, hv⟩ := hinv'.done (q := q) hr64
      rw [← HL.out] at hsm hv
      have hlen := upO_length (q := q) (h := top) hinv.len (Nat.le_refl k)
      have hu := isU_after (B := w.heap.size) hsm hlen.symm hown (Nat.le_refl _)
      have Hv := Lib.hid hv
      have Hlen := Lib.hid hlen.symm
      clear hv hlen hinv hinv' hown0
      go_wp2_with (go_at_call 73; refine (trim_len hu Hlen.out).mono ?_; rintro e w' ⟨rfl, rfl⟩)
      go_ret2
      refine ⟨_, rfl, isN_trimU ?_ hu, hbel⟩
      rw [Hv.out, val_limbs, Hbq.out]

end Go.Proofs.Ythdmfggcfkeenaa

namespace Go.Proofs.Ythdmfggcfkeenaa
open Go.RowKit
set_option linter.unusedVariables false
set_option linter.unusedSimpArgs false

set_option maxHeartbeats 800000 in
theorem at_good {w : World} {Z : Zone} {a : Value} {n i : Nat} (ha : IsN w Z a n) (hi : i ≤ 9223372036854775807) :
    Calls Try.prog 129 #[a, .int .i64 (i : Int)] w fun e w' => e = .returned (.int .i64 ((n / 2 ^ i % 2 : Nat) : Int)) ∧ w = w' := by
  obtain ⟨A, c, rfl, ha⟩ := ha
  have hlen := ha.len
  by_cases h : i / 64 < (limbs n).length
  · obtain ⟨b, o, rfl, _, _, _, hc⟩ := ha.open (by omega)
    have hx := hc (i / 64) h
    have hlb := bit_limb n i
    rw [← limb_at h] at hlb
    have hxl := ha.small.get (j := i / 64) h
    clear ha hc
    generalize (limbs n)[i / 64] = x at *
    have Hlb := Lib.hid hlb
    clear hlb
    go_enter Try.func129, Try.ntmps129
    go_wp2
    go_ret
    refine ⟨ret_int ?_, rfl⟩
    rw [← Hlb.out, ← bit_word x (i % 64) hxl]
  · have hz := Lib.hid (bit_limb_beyond (n := n) (i := i) (by omega))
    go_enter Try.func129, Try.ntmps129
    go_wp2
    go_ret
    rw [hz.out]
    exact ⟨rfl, rfl⟩

/-- May a list of words be a number? -/
theorem may_any {w : World} {Z : Zone} {a : Value} {l : List Nat} (ha : IsU w Z a l) :
    Calls Try.prog 86 #[a] w fun e w' => e = .returned (.bool (good l)) ∧ w = w' := by
  obtain ⟨A, c, rfl, ha⟩ := ha
  have hlen := ha.len
  by_cases h0 : l.length = 0
  · obtain rfl := List.length_eq_zero_iff.1 h0
    simp only [List.length_nil]
    clear ha hlen h0
    go_enter Try.func86, Try.ntmps86
    go_wp2
    go_ret
    exact ⟨rfl, rfl⟩
  · obtain ⟨b, o, rfl, _, _, _, hc⟩ := ha.open (by omega)
    have hx := hc (l.length - 1) (by omega)
    have hg := Lib.hid (good_last (l := l) (by omega))
    have hd : ((l.length : Int) == 0) = false := beq_eq_false_iff_ne.2 (by omega)
    clear ha hc
    generalize l[l.length - 1] = x at *
    go_enter Try.func86, Try.ntmps86
    go_wp2
    go_ret
    have e : ((x : Int) != 0) = (x != 0) := by
      by_cases h : x = 0
      · subst h; rfl
      · rw [bne_iff_ne.2 h, bne_iff_ne.2 (by omega)]
    rw [hg.out, ← e]
    exact ⟨rfl, rfl⟩

/-- The highest bit that is set. -/
theorem rsize_good {w : World} {Z : Zone} {a : Value} {n : Nat} (ha : IsN w Z a n) (hl : (limbs n).length ≤ 900000) :
    Calls Try.prog 106 #[a] w fun e w' => e = .returned (.int .i64 (size n : Int)) ∧ w = w' := by
  have hat := Lib.hid (fun i (hi : i ≤ 9223372036854775807) => at_good (i := i) ha hi)
  obtain ⟨A, c, rfl, ha⟩ := ha
  obtain ⟨L, hL⟩ : ∃ L, L = (limbs n).length := ⟨_, rfl⟩
  have hsz : size n ≤ 64 * L := by
    refine size_le_of ?_
    rw [hL, ← W_pow]
    exact lt_pow_len n
  rw [← hL] at hat hl ⊢
  clear hL ha
  go_enter Try.func106, Try.ntmps106
  go_wp2
  go_loop [3] (fun i => ∃ k : Nat, k ≤ 64 * L ∧ size n ≤ k ∧ i = .int .i64 ((k : Int) - 1)) (fun i => (intOf i + 1).toNat)
  case atStart => exact ⟨64 * L, Nat.le_refl _, hsz, by go_num⟩
  case round =>
    obtain ⟨k, hk, hks, rfl⟩ := hrel
    match k, hk, hks with
    | 0, _, hks =>
      have e0 : (((0 : Nat) : Int) - 1) = -1 := rfl
      rw [e0]
      have hs0 : size n = 0 := by omega
      have Hs0 := Lib.hid hs0
      clear hs0 hks hsz
      go_wp2
      go_ret
      rw [Hs0.out]
      exact ⟨rfl, rfl⟩
    | k + 1, hk, hks =>
      have e0 : (((k + 1 : Nat) : Int) - 1) = (k : Int) := by omega
      rw [e0]
      rcases Nat.mod_two_eq_zero_or_one (n / 2 ^ k) with hb | hb
      · have hks' : size n ≤ k := by
          rcases Nat.lt_or_ge k (size n) with h | h
          · obtain h1 : size n = k + 1 := by omega
            have h2 := top_bit (n := n) (fun e => by rw [e] at h; simp [size_zero] at h)
            rw [h1, Nat.add_sub_cancel] at h2
            omega
          · exact h
        have h := hat.out k (by omega)
        rw [hb] at h
        have H := Lib.hid h
        clear h hb hsz hks
        go_wp2_with fail
        refine H.out.mono ?_
        rintro e w1 ⟨rfl, rfl⟩
        go_wp2
        go_round
        case rel => exact ⟨k, by omega, hks', rfl⟩
        case measure => simp [intOf]
      · have hks' : size n = k + 1 := by
          rcases Nat.lt_or_ge k (size n) with h | h
          · omega
          · have := bit_beyond h
            omega
        have h := hat.out k (by omega)
        rw [hb] at h
        have H := Lib.hid h
        have Hks := Lib.hid hks'
        clear h hb hsz hks hks'
        go_wp2_with fail
        refine H.out.mono ?_
        rintro e w1 ⟨rfl, rfl⟩
        go_wp2
        go_ret
        rw [Hks.out]
        exact ⟨rfl, rfl⟩

end Go.Proofs.Ythdmfggcfkeenaa
