/- The document's own answer, layer 1: its small functions. No conditions. -/
import Derived.Test.YtcheajjjdbllfaaGreatNNatE
import Derived.Test.YtcheajjjdbllfaaGreatNSize
import Derived.Test.YtcheajjjdbllfaaGreatNBits
import Derived.Test.YtcheajjjdbllfaaGreatNRefM
import Derived.Test.YtcheajjjdbllfaaGreatNSame
import Derived.Test.YtcheajjjdbllfaaGreatNNatD
set_option linter.unusedVariables false
set_option linter.unusedSimpArgs false
set_option maxRecDepth 100000
set_option maxHeartbeats 40000000
namespace Go.Proofs.YtcheajjjdbllfaaGreat
open Go.Lib (hid)
open Go.RowKit
variable {A : Option Addr} {Z : Zone} {b c h q r s y : Nat} {m qs : List Nat} {w : World}
def upO (q k n : Nat) (m : List Nat) (h : Nat) : List Nat := List.replicate q 0 ++ (m ++ h :: List.replicate (n - k) 0)
theorem upO_length {k n : Nat} (hm : m.length = k) (hk : k ≤ n) : (upO q k n m h).length = q + n + 1 := by
 simp [upO, hm]; omega
theorem upO_at {k n : Nat} (hm : m.length = k) : (upO q k n m h)[q + k]? = some h := by
 unfold upO
 rw [List.getElem?_append_right (by simp)]
 simp only [List.length_replicate, Nat.add_sub_cancel_left]
 rw [List.getElem?_append_right (by omega)]
 simp [hm]
theorem set_mid (R X : List Nat) (i a : Nat) : (R ++ X).set (R.length + i) a = R ++ X.set i a := by
 rw [List.set_append_right _ _ (by omega), Nat.add_sub_cancel_left]
theorem upO_step {k n : Nat} {a : Nat} (hm : m.length = k) (hk : k < n) : ((upO q k n m h).set (q + k) a).set (q + k + 1) b = upO q (k + 1) n (m ++ [a]) b := by
 obtain ⟨j, hj⟩ : ∃ j, n - k = j + 1 := ⟨n - k - 1, by omega⟩
 have e1 : upO q k n m h = List.replicate q 0 ++ (m ++ (h :: 0 :: List.replicate j 0)) := by unfold upO; rw [hj, List.replicate_succ]
 have e2 : upO q (k + 1) n (m ++ [a]) b = List.replicate q 0 ++ (m ++ (a :: b :: List.replicate j 0)) := by unfold upO; rw [show n - (k + 1) = j by omega]; simp
 rw [e1, e2]
 have hR : (List.replicate q 0).length = q := by simp
 generalize List.replicate q 0 = R at *
 generalize List.replicate j 0 = T at *
 clear e1 e2 hj
 subst hR hm
 rw [set_mid, show m.length = m.length + 0 from rfl, set_mid, List.set_cons_zero, Nat.add_assoc, set_mid, Nat.add_zero, set_mid, List.set_cons_succ, List.set_cons_zero]
theorem upO_next {k n : Nat} (hm : m.length = k) (hk : k < n) : (upO q k n m h)[q + k + 1]? = some 0 := by
 unfold upO
 obtain ⟨j, hj⟩ : ∃ j, n - k = j + 1 := ⟨n - k - 1, by omega⟩
 rw [hj, List.replicate_succ, List.getElem?_append_right (by simp; omega), List.getElem?_append_right (by simp; omega)]
 simp [hm, show q + k + 1 - q - k = 1 by omega]
theorem upO_start (q n : Nat) : upO q 0 n [] 0 = List.replicate (q + n + 1) 0 := by
 unfold upO
 rw [List.nil_append, Nat.sub_zero, ← List.replicate_succ, List.replicate_append_replicate]
 congr 1
structure UpInv (l : List Nat) (s k : Nat) (m : List Nat) (h : Nat) : Prop where
 len : m.length = k
 small : Small m
 high : h < s
 eq : val (m ++ [h]) = val (l.take k) * s
theorem UpInv.start (l : List Nat) (hs : 0 < s) : UpInv l s 0 [] 0 := ⟨rfl, Small.nil, hs, by simp [val]⟩
theorem or_low (h x r : Nat) (hh : h < 2 ^ r) (hr : r ≤ 64) : h ||| (x * 2 ^ r % 18446744073709551616) = h + x * 2 ^ r % 18446744073709551616 := by
 have e : x * 2 ^ r % 18446744073709551616 = 2 ^ r * (x % 2 ^ (64 - r)) := by
  rw [show (18446744073709551616 : Nat) = 2 ^ r * 2 ^ (64 - r) by rw [← Nat.pow_add, show r + (64 - r) = 64 by omega], Nat.mul_comm x, Nat.mul_mod_mul_left]
 rw [e, Nat.or_comm, ← Nat.two_pow_add_eq_or_of_lt hh, Nat.add_comm]
theorem UpInv.step {l : List Nat} {k : Nat} (hi : UpInv l (2 ^ r) k m h) (hk : k < l.length) (hl : Small l) (hr : r < 64) :
  UpInv l (2 ^ r) (k + 1) (m ++ [h + l[k] * 2 ^ r % 18446744073709551616]) (l[k] * 2 ^ r / 18446744073709551616) := by
 have hx := hl.get hk
 have hw : (18446744073709551616 : Nat) = 2 ^ r * 2 ^ (64 - r) := by rw [← Nat.pow_add, show r + (64 - r) = 64 by omega]
 have h2 : 0 < 2 ^ r := Nat.pow_pos (by omega)
 have hlow : h + l[k] * 2 ^ r % 18446744073709551616 < 18446744073709551616 := by
  have e : l[k] * 2 ^ r % 18446744073709551616 = 2 ^ r * (l[k] % 2 ^ (64 - r)) := by rw [hw, Nat.mul_comm l[k], Nat.mul_mod_mul_left]
  have hm : l[k] % 2 ^ (64 - r) < 2 ^ (64 - r) := Nat.mod_lt _ (Nat.pow_pos (by omega))
  have hh := hi.high
  rw [e]
  calc h + 2 ^ r * (l[k] % 2 ^ (64 - r)) < 2 ^ r * 1 + 2 ^ r * (l[k] % 2 ^ (64 - r)) := by omega
   _ = 2 ^ r * (l[k] % 2 ^ (64 - r) + 1) := by rw [← Nat.mul_add, Nat.add_comm]
   _ ≤ 2 ^ r * 2 ^ (64 - r) := Nat.mul_le_mul_left _ hm
   _ = 18446744073709551616 := hw.symm
 refine ⟨by simp [hi.len], hi.small.append (Small.cons hlow Small.nil), ?_, ?_⟩
 · rw [Nat.div_lt_iff_lt_mul (by omega), Nat.mul_comm]
   exact Nat.mul_lt_mul_of_pos_left hx h2
 · have e := hi.eq
   have ht : l.take (k + 1) = l.take k ++ [l[k]] := by rw [List.take_succ_eq_append_getElem hk]
   have hlk : (l.take k).length = k := by rw [List.length_take]; omega
   rw [val_append, hi.len] at e
   rw [ht, val_append (l.take k), hlk, val_append, val_append, List.length_append, hi.len]
   have hd := Nat.div_add_mod (l[k] * 2 ^ r) 18446744073709551616
   simp only [val, List.length_cons, List.length_nil, Nat.pow_add, Nat.mul_zero, Nat.add_zero] at e ⊢
   generalize l[k] * 2 ^ r / 18446744073709551616 = hi' at *
   generalize l[k] * 2 ^ r % 18446744073709551616 = lo' at *
   grind
theorem UpInv.done {l : List Nat} (hi : UpInv l (2 ^ r) l.length m h) (hr : r < 64) : Small (upO q l.length l.length m h) ∧ val (upO q l.length l.length m h) = val l * 2 ^ (64 * q + r) := by
 have hh := hi.high
 have h2 : 2 ^ r ≤ 2 ^ 64 := Nat.pow_le_pow_right (by omega) (by omega)
 have e := hi.eq
 rw [List.take_length] at e
 unfold upO
 rw [Nat.sub_self, List.replicate_zero]
 refine ⟨(Small.replicate0 _).append (hi.small.append (Small.cons (by omega) Small.nil)), ?_⟩
 rw [val_append, val_replicate0, e, List.length_replicate, W_pow, Nat.pow_add]
 grind
theorem asked_good {n : Nat} (ha : U64s w Z A c (limbs n)) (hb : b ≤ 65536) :
  Calls Tryz.prog 163 #[.slice A (limbs n).length c, .int .i64 (b : Int)] w fun e w' => e = .returned (.int .i64 0) ∧ w = w' := by
 have hg := hid (good_limbs n)
 have h1 : decide ((b : Int) < 0) = false := by simp
 have h2 : decide ((65536 : Int) < (b : Int)) = false := by simp; omega
 go_enter Tryz.func163, Tryz.ntmps163
 go_wp2_with (go_at_call 130; refine (check_good ha hg.out).mono ?_; rintro e w' ⟨rfl, rfl⟩)
 go_ret
 exact ⟨rfl, rfl⟩
theorem norm_words {hi lo t : Nat} (hhi : hi < y) (hlo : lo < 18446744073709551616) (hst : s + t = 64) (hy : y * 2 ^ s < 18446744073709551616) :
  hi * 2 ^ s < 18446744073709551616 ∧ lo / 2 ^ t < 2 ^ s ∧ (hi * 18446744073709551616 + lo) * 2 ^ s = (hi * 2 ^ s + lo / 2 ^ t) * 18446744073709551616 + lo * 2 ^ s % 18446744073709551616 ∧ hi * 2 ^ s + lo / 2 ^ t < y * 2 ^ s := by
 have hW : (18446744073709551616 : Nat) = 2 ^ t * 2 ^ s := by rw [← Nat.pow_add, Nat.add_comm, hst]
 have hp : 0 < 2 ^ s := Nat.pow_pos (by omega)
 have h1 : lo / 2 ^ t < 2 ^ s := by
  rw [Nat.div_lt_iff_lt_mul (Nat.pow_pos (by omega)), Nat.mul_comm, ← hW]
  exact hlo
 have h2 : lo * 2 ^ s / 18446744073709551616 = lo / 2 ^ t := by
  rw [hW, Nat.mul_div_mul_right _ _ hp]
 have h3 := Nat.div_add_mod (lo * 2 ^ s) 18446744073709551616
 rw [h2] at h3
 have h4 : (hi + 1) * 2 ^ s ≤ y * 2 ^ s := Nat.mul_le_mul_right _ hhi
 rw [Nat.add_mul, Nat.one_mul] at h4
 generalize 2 ^ s = p at *
 refine ⟨by omega, h1, ?_, by omega⟩
 rw [Nat.add_mul, Nat.add_mul, Nat.mul_right_comm, Nat.mul_comm (lo / 2 ^ t), Nat.add_assoc, h3]
theorem size_word (h0 : 0 < y) (hy : y < 18446744073709551616) : size y ≤ 64 ∧ 9223372036854775808 ≤ y * 2 ^ (64 - size y) ∧ y * 2 ^ (64 - size y) < 18446744073709551616 := by
 have h1 : size y ≤ 64 := size_le_of hy
 have h2 := size_le (n := y) (by omega)
 have h3 := lt_size y
 have h4 := size_pos (n := y) (by omega)
 refine ⟨h1, ?_, ?_⟩
 · have : 2 ^ (size y - 1) * 2 ^ (64 - size y) ≤ y * 2 ^ (64 - size y) := Nat.mul_le_mul_right _ h2
   rw [← Nat.pow_add, show size y - 1 + (64 - size y) = 63 by omega] at this
   exact this
 · have : y * 2 ^ (64 - size y) < 2 ^ size y * 2 ^ (64 - size y) := Nat.mul_lt_mul_of_pos_right h3 (Nat.pow_pos (by omega))
   rw [← Nat.pow_add, show size y + (64 - size y) = 64 by omega] at this
   exact this
theorem lz64 (y : Nat) (w : World) (h : y < 18446744073709551616) :
  Calls Tryz.prog 151 #[.int .u64 (y : Int)] w fun e w' => e = .returned (.int .i64 ((64 - size y : Nat) : Int)) ∧ w = w' := by
 have hl := bits_len64 y w h
 rw [bitLen_size y h] at hl
 have hs : size y ≤ 64 := size_le_of h
 have he : (64 : Int) - (size y : Int) = ((64 - size y : Nat) : Int) := by omega
 have Hl := hid hl
 clear hl
 generalize 64 - size y = s at *
 generalize size y = z at *
 go_enter Tryz.func151, Tryz.ntmps151
 go_wp2_with fail
 refine Hl.out.mono ?_
 rintro e w1 ⟨rfl, rfl⟩
 go_wp2
 go_ret
 exact ⟨rfl, rfl⟩
theorem div64_low {lo : Nat} (w : World) (hlo : lo < 18446744073709551616) (hy0 : 0 < y) (hy : y < 18446744073709551616) :
  Calls Tryz.prog 162 #[.int .u64 0, .int .u64 (lo : Int), .int .u64 (y : Int)] w fun e w' => e = .returned (.tuple #[.int .u64 ((lo / y : Nat) : Int), .int .u64 ((lo % y : Nat) : Int)]) ∧ Below w.heap.size w w' := by
 have d1 : ((y : Int) == 0) = false := beq_eq_false_iff_ne.2 (by omega)
 have d2 : decide ((y : Int) ≤ 0) = false := decide_eq_false (by omega)
 obtain ⟨q, hq⟩ : ∃ q, q = lo / y := ⟨_, rfl⟩
 obtain ⟨r, hr⟩ : ∃ r, r = lo % y := ⟨_, rfl⟩
 have e1 : (lo : Int) / (y : Int) = (q : Int) := by rw [hq, Int.natCast_ediv]
 have e2 : (lo : Int) % (y : Int) = (r : Int) := by rw [hr, Int.natCast_emod]
 have e3 : (lo : Int).tdiv (y : Int) = (q : Int) := by rw [Int.tdiv_eq_ediv_of_nonneg (by omega)]; exact e1
 have e4 : (lo : Int).tmod (y : Int) = (r : Int) := by rw [Int.tmod_eq_emod_of_nonneg (by omega)]; exact e2
 have hql : q < 18446744073709551616 := by rw [hq]; exact Nat.lt_of_le_of_lt (Nat.div_le_self _ _) hlo
 have hrl : r < 18446744073709551616 := by rw [hr]; exact Nat.lt_of_le_of_lt (Nat.mod_le _ _) hlo
 rw [← hq, ← hr]
 clear hq hr
 go_enter Tryz.func162, Tryz.ntmps162
 go_wp2
 go_quiet (fail)
 go_wp2
 go_ret2
 exact ⟨rfl, below_drewN' (Below.refl _ _) _⟩
structure Norm (hi lo y s t y1 yh yl h1 l1 u b c1 c0 : Nat) : Prop where
 ey1 : y1 = y * 2 ^ s
 big : 9223372036854775808 ≤ y1
 lt : y1 < 18446744073709551616
 eyh : yh = y1 / 4294967296
 eyl : yl = y1 % 4294967296
 eh1 : h1 = hi * 2 ^ s
 h1l : h1 < 18446744073709551616
 el1 : l1 = lo / 2 ^ t
 orr : h1 ||| l1 = u
 eu : u < y1
 eb : b = lo * 2 ^ s % 18446744073709551616
 ec1 : c1 = b / 4294967296
 ec0 : c0 = b % 4294967296
 all : (hi * 18446744073709551616 + lo) * 2 ^ s = u * 18446744073709551616 + b
theorem norm_all {hi lo : Nat} (hhi : hi < y) (hlo : lo < 18446744073709551616) (hy : y < 18446744073709551616) :
  ∃ s t y1 yh yl h1 l1 u b c1 c0, s = 64 - size y ∧ s ≤ 63 ∧ s + t = 64 ∧ Norm hi lo y s t y1 yh yl h1 l1 u b c1 c0 := by
 obtain ⟨k1, k2, k3⟩ := size_word (y := y) (by omega) hy
 have k4 := size_pos (n := y) (by omega)
 obtain ⟨n1, n2, n3, n4⟩ := norm_words (t := size y) (s := 64 - size y) hhi hlo (by omega) k3
 have hor : (hi * 2 ^ (64 - size y)) ||| (lo / 2 ^ size y) = hi * 2 ^ (64 - size y) + lo / 2 ^ size y := by
  rw [Nat.or_comm]
  have h := or_low (lo / 2 ^ size y) hi (64 - size y) n2 (by omega)
  rw [Nat.mod_eq_of_lt n1] at h
  rw [h, Nat.add_comm]
 exact ⟨64 - size y, size y, _, _, _, _, _, hi * 2 ^ (64 - size y) + lo / 2 ^ size y, _, _, _, rfl, by omega, by omega, rfl, k2, k3, rfl, rfl, rfl, n1, rfl, hor, n4, rfl, rfl, rfl, n3⟩
theorem e17 {u : Nat} (hy : y < 18446744073709551616) (h0 : 0 < y) (hq : q = (u * 4294967296 + c) / y) :
  IntKind.u64.wrap (IntKind.u64.wrap (IntKind.u64.wrap ((u : Int) * 4294967296) + (c : Int)) - IntKind.u64.wrap ((q : Int) * (y : Int))) = (((u * 4294967296 + c) % y : Nat) : Int) := by
 have h := dig_rest hy h0 hq
 rw [show (u : Int) * 4294967296 = ((u * 4294967296 : Nat) : Int) by omega, Mul64.wrapM, show ((u * 4294967296 % 18446744073709551616 : Nat) : Int) + (c : Int) = ((u * 4294967296 % 18446744073709551616 + c : Nat) : Int) by omega, Mul64.wrapM, ← Int.natCast_mul, Mul64.wrapM, IntKind.wrap_u64, ← h]
 have hB : q * y % 18446744073709551616 < 18446744073709551616 := Nat.mod_lt _ (by omega)
 generalize (u * 4294967296 % 18446744073709551616 + c) % 18446744073709551616 = A
 generalize q * y % 18446744073709551616 = B at *
 omega
theorem div64_high {hi lo : Nat} (w : World) (h0 : 0 < hi) (hhi : hi < y) (hlo : lo < 18446744073709551616) (hy : y < 18446744073709551616) :
  Calls Tryz.prog 162 #[.int .u64 (hi : Int), .int .u64 (lo : Int), .int .u64 (y : Int)] w fun e w' => e = .returned (.tuple #[.int .u64 (((hi * 18446744073709551616 + lo) / y : Nat) : Int), .int .u64 (((hi * 18446744073709551616 + lo) % y : Nat) : Int)]) ∧ w = w' := by
 obtain ⟨QQ, hQQ⟩ : ∃ Q, Q = (hi * 18446744073709551616 + lo) / y := ⟨_, rfl⟩
 obtain ⟨RR, hRR⟩ : ∃ R, R = (hi * 18446744073709551616 + lo) % y := ⟨_, rfl⟩
 rw [← hQQ, ← hRR]
 have d1 : ((y : Int) == 0) = false := beq_eq_false_iff_ne.2 (by omega)
 have d2 : decide (y ≤ hi) = false := decide_eq_false (by omega)
 have d3 : ((hi : Int) == 0) = false := beq_eq_false_iff_ne.2 (by omega)
 have hlz := fun w => lz64 y w hy
 obtain ⟨s, t, y1, yh, yl, h1, l1, u, b, c1, c0, hs, hs63, hst, N⟩ := norm_all hhi hlo hy
 rw [← hs] at hlz
 obtain ⟨Hlz, HN⟩ := hid2 hlz N
 have f1 : IntKind.u64.wrap ((y : Int) * 2 ^ s) = (y1 : Int) := by
  rw [IntKind.wrap_u64]
  have := N.ey1
  have := N.lt
  have e : ((y * 2 ^ s : Nat) : Int) = (y : Int) * 2 ^ s := by simp
  rw [← e]
  omega
 have f2 : (y1 : Int) / 4294967296 = (yh : Int) := by have := N.eyh; omega
 have f3 : bits .and .u64 (y1 : Int) 4294967295 = (yl : Int) := by rw [Mul64.maskN _ N.lt, N.eyl]
 have f4 : IntKind.u64.wrap ((hi : Int) * 2 ^ s) = (h1 : Int) := by
  rw [IntKind.wrap_u64]
  have := N.eh1
  have := N.h1l
  have e : ((hi * 2 ^ s : Nat) : Int) = (hi : Int) * 2 ^ s := by simp
  rw [← e]
  omega
 have f5 : (64 : Int) - (s : Int) = (t : Int) := by omega
 have f6 : (lo : Int) / 2 ^ t = (l1 : Int) := by rw [N.el1]; simp
 have hl1 : l1 < 18446744073709551616 := by rw [N.el1]; exact Nat.lt_of_le_of_lt (Nat.div_le_self _ _) hlo
 have hul : u < 18446744073709551616 := Nat.lt_trans N.eu N.lt
 have f7 : bits .or .u64 (h1 : Int) (l1 : Int) = (u : Int) := by rw [bits_or_u64_nat _ _ N.h1l hl1, N.orr]
 have hbl : b < 18446744073709551616 := by rw [N.eb]; exact Nat.mod_lt _ (by omega)
 have f8 : IntKind.u64.wrap ((lo : Int) * 2 ^ s) = (b : Int) := by
  rw [IntKind.wrap_u64, N.eb]
  simp
 have f9 : (b : Int) / 4294967296 = (c1 : Int) := by have := N.ec1; omega
 have f10 : bits .and .u64 (b : Int) 4294967295 = (c0 : Int) := by rw [Mul64.maskN _ hbl, N.ec0]
 have hyh1 : 2147483648 ≤ yh := by have := N.eyh; have := N.big; omega
 have hyh2 : yh < 4294967296 := by have := N.eyh; have := N.lt; omega
 have hyl : yl < 4294967296 := by have := N.eyl; omega
 have hc1 : c1 < 4294967296 := by have := N.ec1; omega
 have hc0 : c0 < 4294967296 := by have := N.ec0; omega
 have hy1l := N.lt
 obtain ⟨q, hq⟩ : ∃ q, q = u / yh := ⟨_, rfl⟩
 obtain ⟨p, hp⟩ : ∃ p, p = q * yh := ⟨_, rfl⟩
 have hpu : p ≤ u := by rw [hp, hq]; exact Nat.div_mul_le_self _ _
 have f11 : (u : Int) / (yh : Int) = (q : Int) := by rw [hq, Int.natCast_ediv]
 have f12 : (q : Int) * (yh : Int) = (p : Int) := by rw [hp, Int.natCast_mul]
 obtain ⟨r, hr⟩ : ∃ r, r = u - p := ⟨_, rfl⟩
 have f13 : (u : Int) - (p : Int) = (r : Int) := by omega
 have hrl : r < 18446744073709551616 := by omega
 have hpl : p < 18446744073709551616 := by omega
 have hql : q < 18446744073709551616 := by rw [hq]; exact Nat.lt_of_le_of_lt (Nat.div_le_self _ _) hul
 have f14 : (u : Int).tdiv (yh : Int) = (q : Int) := by rw [Int.tdiv_eq_ediv_of_nonneg (by omega)]; exact f11
 have dyh3 : ¬ (yh = 0) := by omega
 have hy1e : yh * 4294967296 + yl = y1 := by have := N.eyh; have := N.eyl; omega
 have hrh : r < yh := by
  have h1 := Nat.div_add_mod u yh
  have h2 := Nat.mod_lt u (show 0 < yh by omega)
  rw [← hq, Nat.mul_comm, ← hp] at h1
  omega
 have hdig : DigI yh yl u c1 q r := by
  have h := DigI.start (yh := yh) (yl := yl) (u := u) (c := c1) (by rw [hy1e]; exact N.eu) hc1 hyh1 hyl
  rw [← hq, ← hp, ← hr] at h
  exact h
 have hu1 : u < yh * 4294967296 + yl := by rw [hy1e]; exact N.eu
 have HD := hid (And.intro hdig (And.intro hu1 hy1e))
 have hrH : r < 4294967296 := by omega
 obtain ⟨u2, hu2⟩ : ∃ u2, u2 = (u * 4294967296 + c1) % y1 := ⟨_, rfl⟩
 have hu2y : u2 < y1 := by rw [hu2]; exact Nat.mod_lt _ (by omega)
 obtain ⟨q2, hq2⟩ : ∃ q, q = u2 / yh := ⟨_, rfl⟩
 obtain ⟨p2, hp2⟩ : ∃ p, p = q2 * yh := ⟨_, rfl⟩
 have hpu2 : p2 ≤ u2 := by rw [hp2, hq2]; exact Nat.div_mul_le_self _ _
 obtain ⟨r2, hr2⟩ : ∃ r, r = u2 - p2 := ⟨_, rfl⟩
 have hrh2 : r2 < yh := by
  have h1 := Nat.div_add_mod u2 yh
  have h2 := Nat.mod_lt u2 (show 0 < yh by omega)
  rw [← hq2, Nat.mul_comm, ← hp2] at h1
  omega
 have hdig2 : DigI yh yl u2 c0 q2 r2 := by
  have h := DigI.start (yh := yh) (yl := yl) (u := u2) (c := c0) (by rw [hy1e]; exact hu2y) hc0 hyh1 hyl
  rw [← hq2, ← hp2, ← hr2] at h
  exact h
 have HD2 := hid (And.intro hdig2 (show u2 < yh * 4294967296 + yl by rw [hy1e]; exact hu2y))
 have hr2H : r2 < 4294967296 := by omega
 have hq2l : q2 < 18446744073709551616 := by rw [hq2]; exact Nat.lt_of_le_of_lt (Nat.div_le_self _ _) (by omega)
 have h18 : IntKind.u64.wrap ((u2 : Int).tdiv (yh : Int)) = (q2 : Int) := by
  rw [Int.tdiv_eq_ediv_of_nonneg (by omega), ← Int.natCast_ediv, ← hq2, Mul64.wrapN q2 hq2l]
 have h16 : IntKind.u64.wrap ((u2 : Int) - IntKind.u64.wrap ((q2 : Int) * (yh : Int))) = (r2 : Int) := by
  rw [← Int.natCast_mul, ← hp2, Mul64.wrapN p2 (by omega), show (u2 : Int) - (p2 : Int) = (r2 : Int) by omega, Mul64.wrapN r2 (by omega)]
 have H2 := hid (And.intro h18 h16)
 have H17 : Hid (∀ q, q = (u * 4294967296 + c1) / (yh * 4294967296 + yl) → IntKind.u64.wrap (IntKind.u64.wrap (IntKind.u64.wrap ((u : Int) * 4294967296) + (c1 : Int)) - IntKind.u64.wrap ((q : Int) * (y1 : Int))) = (u2 : Int)) := fun q hq => by
  rw [hu2]
  exact e17 hy1l (by omega) (by rw [hq, hy1e])
 have HFIN : Hid (∀ q q2, q = (u * 4294967296 + c1) / (yh * 4294967296 + yl) → q2 = (u2 * 4294967296 + c0) / (yh * 4294967296 + yl) →
   Ending.returned (.tuple #[.int .u64 (IntKind.u64.wrap (IntKind.u64.wrap ((q : Int) * 4294967296) + (q2 : Int))), .int .u64 (IntKind.u64.wrap (IntKind.u64.wrap (IntKind.u64.wrap ((u2 : Int) * 4294967296) + (c0 : Int)) - IntKind.u64.wrap ((q2 : Int) * (y1 : Int))) / 2 ^ min s 64)]) =
   Ending.returned (.tuple #[.int .u64 (QQ : Int), .int .u64 (RR : Int)])) := fun q q2 h1 h2 => by
  rw [hQQ, hRR, Nat.min_eq_left (show s ≤ 64 by omega)]
  rw [hy1e] at h1 h2
  obtain ⟨k1, k2⟩ := two_digs (y := y1) (by omega) N.all
  rw [← N.ec1, ← N.ec0, ← hu2, ← h1, ← h2] at k1
  rw [← N.ec1, ← N.ec0, ← hu2] at k2
  have hp : 0 < 2 ^ s := Nat.pow_pos (by omega)
  rw [N.ey1, Nat.mul_div_mul_right _ _ hp] at k1
  have k3 : (hi * 18446744073709551616 + lo) % y = (u2 * 4294967296 + c0) % y1 / 2 ^ s := by
   rw [← k2, N.ey1, Nat.mul_mod_mul_right, Nat.mul_div_cancel _ hp]
  have hqH : q < 4294967296 := by
   rw [h1]
   refine Nat.div_lt_of_lt_mul ?_
   have := N.eu
   have h3 : (u + 1) * 4294967296 ≤ y1 * 4294967296 := Nat.mul_le_mul_right _ this
   omega
  have hq2H : q2 < 4294967296 := by
   rw [h2]
   refine Nat.div_lt_of_lt_mul ?_
   have h3 : (u2 + 1) * 4294967296 ≤ y1 * 4294967296 := Nat.mul_le_mul_right _ hu2y
   omega
  rw [e17 hy1l (by omega) h2, show (q : Int) * 4294967296 = ((q * 4294967296 : Nat) : Int) by omega, Mul64.wrapN _ (by omega), show ((q * 4294967296 : Nat) : Int) + (q2 : Int) = ((q * 4294967296 + q2 : Nat) : Int) by omega, Mul64.wrapN _ (by omega), k1, k3]
  congr 3
 obtain ⟨HF, HS⟩ := hid2 (And.intro f11 (And.intro f12 (And.intro f13 (And.intro f14 dyh3)))) (And.intro hst (And.intro hs63 (And.intro hpu hyh1)))
 clear hlz N hs f11 f12 f13 f14 dyh3 hst hs63 hpu hp hq hr hlo hhi hy hdig hu1 hy1e hrh h18 h16 hq2l hdig2 hrh2 hr2 hpu2 hp2 hq2 hu2y hu2 hQQ hRR
 go_enter Tryz.func162, Tryz.ntmps162
 go_wp2_with fail
 refine (Hlz.out _).mono ?_
 rintro e w1 ⟨rfl, rfl⟩
 go_wp2
 obtain ⟨f11, f12, f13, f14, dyh3⟩ := HF.out
 clear f1 f2 f3 f4 f5 f6 f7 f8 f9 f10 d1 d2 d3
 go_wp2
 clear f11 f12 f13 f14 dyh3 Hlz hl1 hbl
 have HW := hid (And.intro hpl (And.intro hrl hql))
 clear hpl hrl hql
 go_loop [15, 16] (fun a b => ∃ q r : Nat, a = .int .u64 (q : Int) ∧ b = .int .u64 (r : Int) ∧ Hid (DigI yh yl u c1 q r) ∧ r < 4294967296 ∧ q ≤ 4294967297) (fun a _ => (intOf a).toNat)
 case atStart =>
  obtain ⟨f11, f12, f13, f14, _⟩ := HF.out
  obtain ⟨hpl, hrl, hql⟩ := HW.out
  refine ⟨q, r, ?_, ?_, HD.out.1, hrH, HD.out.1.top⟩
  · rw [f11, Mul64.wrapN q hql]
  · rw [f11, Mul64.wrapN q hql, f12, Mul64.wrapN p hpl, f13, Mul64.wrapN r hrl]
 case round =>
  clear hrH
  obtain ⟨q, r, rfl, rfl, hdig, hrH, hqT⟩ := hrel
  obtain ⟨hf1, hf2⟩ := hdig.out.fits hyl hc1 hrH
  obtain ⟨pr, hpr⟩ : ∃ pr, pr = q * yl := ⟨_, rfl⟩
  obtain ⟨m, hm⟩ : ∃ m, m = 4294967296 * r := ⟨_, rfl⟩
  obtain ⟨n, hn⟩ : ∃ n, n = m + c1 := ⟨_, rfl⟩
  rw [← hpr] at hf1
  rw [← hm, ← hn] at hf2
  have e1 : (q : Int) * (yl : Int) = (pr : Int) := by rw [hpr, Int.natCast_mul]
  have e2 : (4294967296 : Int) * (r : Int) = (m : Int) := by omega
  have e3 : (m : Int) + (c1 : Int) = (n : Int) := by omega
  have hmW : m < 18446744073709551616 := by omega
  by_cases hgo : 4294967296 ≤ q ∨ n < pr
  · obtain ⟨hq0, hdn, hqn⟩ := hdig.out.next HD.out.2.1 hc1 (by omega) (by rw [← hm, ← hn, ← hpr]; exact hgo)
    obtain ⟨q', hq'⟩ : ∃ q', q' = q - 1 := ⟨_, rfl⟩
    obtain ⟨r', hr'⟩ : ∃ r', r' = r + yh := ⟨_, rfl⟩
    rw [← hq', ← hr'] at hdn
    rw [← hq'] at hqn
    have e4 : (q : Int) - 1 = (q' : Int) := by omega
    have e5 : (r : Int) + (yh : Int) = (r' : Int) := by omega
    have hr'W : r' < 18446744073709551616 := by omega
    have hlt' : q' < q := by omega
    have HN2 := hid hdn
    clear hdn hpr hm hn hq' hr'
    have hcase : (4294967296 : Int) ≤ (q : Int) ∨ (decide ((4294967296 : Int) ≤ (q : Int)) = false ∧ n < pr) := by
     rcases Nat.lt_or_ge q 4294967296 with h | h
     · exact .inr ⟨decide_eq_false (by omega), by omega⟩
     · exact .inl (by omega)
    clear hgo
    by_cases hbr : 4294967296 ≤ r'
    · have hd : (4294967296 : Int) ≤ (r' : Int) := by omega
      have HQu := hid (HN2.out.brk (by omega) hyl hqn hbr)
      rcases hcase with hc | ⟨hc, hc2⟩
      all_goals
       go_wp2
       clear hd hbr e1 e2 e3 e4 e5 hmW hf1 hf2 hqT hrH hqn hr'W hlt' hq0 hdig HN2
       obtain ⟨Q, hQ⟩ : ∃ Q, Q = q' := ⟨_, rfl⟩
       rw [← hQ] at HQu ⊢
       clear hQ
       rw [H17.out _ HQu.out, H2.out.1, H2.out.2]
       go_loop [18, 16] (fun a b => ∃ q r : Nat, a = .int .u64 (q : Int) ∧ b = .int .u64 (r : Int) ∧ Hid (DigI yh yl u2 c0 q r) ∧ r < 4294967296 ∧ q ≤ 4294967297) (fun a _ => (intOf a).toNat)
       case atStart => exact ⟨q2, r2, rfl, rfl, HD2.out.1, hr2H, HD2.out.1.top⟩
       case round =>
        obtain ⟨q, r, rfl, rfl, hdig, hrH, hqT⟩ := hrel
        obtain ⟨hf1, hf2⟩ := hdig.out.fits hyl hc0 hrH
        obtain ⟨pr, hpr⟩ : ∃ pr, pr = q * yl := ⟨_, rfl⟩
        obtain ⟨m, hm⟩ : ∃ m, m = 4294967296 * r := ⟨_, rfl⟩
        obtain ⟨n, hn⟩ : ∃ n, n = m + c0 := ⟨_, rfl⟩
        rw [← hpr] at hf1
        rw [← hm, ← hn] at hf2
        have e1 : (q : Int) * (yl : Int) = (pr : Int) := by rw [hpr, Int.natCast_mul]
        have e2 : (4294967296 : Int) * (r : Int) = (m : Int) := by omega
        have e3 : (m : Int) + (c0 : Int) = (n : Int) := by omega
        have hmW : m < 18446744073709551616 := by omega
        by_cases hgo : 4294967296 ≤ q ∨ n < pr
        · obtain ⟨hq0, hdn, hqn⟩ := hdig.out.next HD2.out.2 hc0 (by omega) (by rw [← hm, ← hn, ← hpr]; exact hgo)
          obtain ⟨q', hq'⟩ : ∃ q', q' = q - 1 := ⟨_, rfl⟩
          obtain ⟨r', hr'⟩ : ∃ r', r' = r + yh := ⟨_, rfl⟩
          rw [← hq', ← hr'] at hdn
          rw [← hq'] at hqn
          have e4 : (q : Int) - 1 = (q' : Int) := by omega
          have e5 : (r : Int) + (yh : Int) = (r' : Int) := by omega
          have hr'W : r' < 18446744073709551616 := by omega
          have hlt' : q' < q := by omega
          have HN2 := hid hdn
          clear hdn hpr hm hn hq' hr'
          have hcase : (4294967296 : Int) ≤ (q : Int) ∨ (decide ((4294967296 : Int) ≤ (q : Int)) = false ∧ n < pr) := by
           rcases Nat.lt_or_ge q 4294967296 with h | h
           · exact .inr ⟨decide_eq_false (by omega), by omega⟩
           · exact .inl (by omega)
          clear hgo
          by_cases hbr : 4294967296 ≤ r'
          · have hd : (4294967296 : Int) ≤ (r' : Int) := by omega
            have HQu2 := hid (HN2.out.brk (by omega) hyl hqn hbr)
            rcases hcase with hc | ⟨hc, hc2⟩
            all_goals
             go_wp2
             clear hd hbr e1 e2 e3 e4 e5 hmW hf1 hf2 hqT hrH hqn hr'W hlt' hq0 hdig HN2
             go_ret2
             exact ⟨HFIN.out _ _ HQu.out HQu2.out, rfl⟩
          · have hd : decide ((4294967296 : Int) ≤ (r' : Int)) = false := decide_eq_false (by omega)
            rcases hcase with hc | ⟨hc, hc2⟩
            all_goals
             go_wp2
             go_round
             case rel => exact ⟨q', r', rfl, rfl, HN2, by omega, by omega⟩
             case measure => simp [intOf]; omega
        · have hc1' : decide ((4294967296 : Int) ≤ (q : Int)) = false := decide_eq_false (by omega)
          have hc2' : decide (n < pr) = false := decide_eq_false (by omega)
          have HQu2 := hid (hdig.out.done (by omega) (by rw [← hpr, ← hm, ← hn]; omega))
          clear hgo hpr hm hn
          go_wp2
          clear hc1' hc2' e1 e2 e3 hmW hf1 hf2 hqT hrH hdig
          go_ret2
          exact ⟨HFIN.out _ _ HQu.out HQu2.out, rfl⟩
    · have hd : decide ((4294967296 : Int) ≤ (r' : Int)) = false := decide_eq_false (by omega)
      rcases hcase with hc | ⟨hc, hc2⟩
      all_goals
       go_wp2
       go_round
       case rel => exact ⟨q', r', rfl, rfl, HN2, by omega, by omega⟩
       case measure => simp [intOf]; omega
  · have hc1' : decide ((4294967296 : Int) ≤ (q : Int)) = false := decide_eq_false (by omega)
    have hc2' : decide (n < pr) = false := decide_eq_false (by omega)
    have HQu := hid (hdig.out.done (by omega) (by rw [← hpr, ← hm, ← hn]; omega))
    clear hgo hpr hm hn
    go_wp2
    clear hc1' hc2' e1 e2 e3 hmW hf1 hf2 hqT hrH hdig
    obtain ⟨Q, hQ⟩ : ∃ Q, Q = q := ⟨_, rfl⟩
    rw [← hQ] at HQu ⊢
    clear hQ
    rw [H17.out _ HQu.out, H2.out.1, H2.out.2]
    go_loop [18, 16] (fun a b => ∃ q r : Nat, a = .int .u64 (q : Int) ∧ b = .int .u64 (r : Int) ∧ Hid (DigI yh yl u2 c0 q r) ∧ r < 4294967296 ∧ q ≤ 4294967297) (fun a _ => (intOf a).toNat)
    case atStart => exact ⟨q2, r2, rfl, rfl, HD2.out.1, hr2H, HD2.out.1.top⟩
    case round =>
     obtain ⟨q, r, rfl, rfl, hdig, hrH, hqT⟩ := hrel
     obtain ⟨hf1, hf2⟩ := hdig.out.fits hyl hc0 hrH
     obtain ⟨pr, hpr⟩ : ∃ pr, pr = q * yl := ⟨_, rfl⟩
     obtain ⟨m, hm⟩ : ∃ m, m = 4294967296 * r := ⟨_, rfl⟩
     obtain ⟨n, hn⟩ : ∃ n, n = m + c0 := ⟨_, rfl⟩
     rw [← hpr] at hf1
     rw [← hm, ← hn] at hf2
     have e1 : (q : Int) * (yl : Int) = (pr : Int) := by rw [hpr, Int.natCast_mul]
     have e2 : (4294967296 : Int) * (r : Int) = (m : Int) := by omega
     have e3 : (m : Int) + (c0 : Int) = (n : Int) := by omega
     have hmW : m < 18446744073709551616 := by omega
     by_cases hgo : 4294967296 ≤ q ∨ n < pr
     · obtain ⟨hq0, hdn, hqn⟩ := hdig.out.next HD2.out.2 hc0 (by omega) (by rw [← hm, ← hn, ← hpr]; exact hgo)
       obtain ⟨q', hq'⟩ : ∃ q', q' = q - 1 := ⟨_, rfl⟩
       obtain ⟨r', hr'⟩ : ∃ r', r' = r + yh := ⟨_, rfl⟩
       rw [← hq', ← hr'] at hdn
       rw [← hq'] at hqn
       have e4 : (q : Int) - 1 = (q' : Int) := by omega
       have e5 : (r : Int) + (yh : Int) = (r' : Int) := by omega
       have hr'W : r' < 18446744073709551616 := by omega
       have hlt' : q' < q := by omega
       have HN2 := hid hdn
       clear hdn hpr hm hn hq' hr'
       have hcase : (4294967296 : Int) ≤ (q : Int) ∨ (decide ((4294967296 : Int) ≤ (q : Int)) = false ∧ n < pr) := by
        rcases Nat.lt_or_ge q 4294967296 with h | h
        · exact .inr ⟨decide_eq_false (by omega), by omega⟩
        · exact .inl (by omega)
       clear hgo
       by_cases hbr : 4294967296 ≤ r'
       · have hd : (4294967296 : Int) ≤ (r' : Int) := by omega
         have HQu2 := hid (HN2.out.brk (by omega) hyl hqn hbr)
         rcases hcase with hc | ⟨hc, hc2⟩
         all_goals
          go_wp2
          clear hd hbr e1 e2 e3 e4 e5 hmW hf1 hf2 hqT hrH hqn hr'W hlt' hq0 hdig HN2
          go_ret2
          exact ⟨HFIN.out _ _ HQu.out HQu2.out, rfl⟩
       · have hd : decide ((4294967296 : Int) ≤ (r' : Int)) = false := decide_eq_false (by omega)
         rcases hcase with hc | ⟨hc, hc2⟩
         all_goals
          go_wp2
          go_round
          case rel => exact ⟨q', r', rfl, rfl, HN2, by omega, by omega⟩
          case measure => simp [intOf]; omega
     · have hc1' : decide ((4294967296 : Int) ≤ (q : Int)) = false := decide_eq_false (by omega)
       have hc2' : decide (n < pr) = false := decide_eq_false (by omega)
       have HQu2 := hid (hdig.out.done (by omega) (by rw [← hpr, ← hm, ← hn]; omega))
       clear hgo hpr hm hn
       go_wp2
       clear hc1' hc2' e1 e2 e3 hmW hf1 hf2 hqT hrH hdig
       go_ret2
       exact ⟨HFIN.out _ _ HQu.out HQu2.out, rfl⟩
theorem div64_any {hi lo : Nat} (w : World) (hhi : hi < y) (hlo : lo < 18446744073709551616) (hy : y < 18446744073709551616) :
  Calls Tryz.prog 162 #[.int .u64 (hi : Int), .int .u64 (lo : Int), .int .u64 (y : Int)] w fun e w' => e = .returned (.tuple #[.int .u64 (((hi * 18446744073709551616 + lo) / y : Nat) : Int), .int .u64 (((hi * 18446744073709551616 + lo) % y : Nat) : Int)]) ∧ Below w.heap.size w w' := by
 rcases Nat.eq_zero_or_pos hi with rfl | h0
 · rw [Nat.zero_mul, Nat.zero_add]
   exact div64_low w hlo hhi hy
 · refine (div64_high w h0 hhi hlo hy).mono ?_
   rintro e w' ⟨rfl, rfl⟩
   exact ⟨rfl, Below.refl _ _⟩
structure WordI (l : List Nat) (y k : Nat) (qs : List Nat) (r : Nat) : Prop where
 len : qs.length = l.length
 small : Small qs
 rest : r < y
 low : ∀ j (h : j < qs.length), j + k < l.length → qs[j] = 0
 eq : val (qs.drop (l.length - k)) * y + r = val (l.drop (l.length - k))
theorem WordI.start {l : List Nat} (hy : 0 < y) : WordI l y 0 (List.replicate l.length 0) 0 :=
 ⟨by simp, Small.replicate0 _, hy, fun j h _ => by simp, by simp [val]⟩
theorem WordI.step {l : List Nat} {k : Nat} (h : WordI l y k qs r) (hs : Small l) (hy : y < 18446744073709551616) (hk : k < l.length) :
  ∃ hl : l.length - 1 - k < l.length, WordI l y (k + 1) (qs.set (l.length - 1 - k) ((r * 18446744073709551616 + l[l.length - 1 - k]) / y)) ((r * 18446744073709551616 + l[l.length - 1 - k]) % y) := by
 have hl : l.length - 1 - k < l.length := by omega
 refine ⟨hl, ?_⟩
 obtain ⟨i, hi⟩ : ∃ i, i = l.length - 1 - k := ⟨_, rfl⟩
 have hi1 : l.length - k = i + 1 := by omega
 have hi2 : l.length - (k + 1) = i := by omega
 have hx : l[l.length - 1 - k]'hl = l[i]'(by omega) := by subst hi; rfl
 rw [hx, ← hi]
 have hxs := hs.get (show i < l.length by omega)
 generalize hx' : l[i]'(by omega) = x at *
 have hy0 : 0 < y := Nat.lt_of_le_of_lt (Nat.zero_le _) h.rest
 have hq : (r * 18446744073709551616 + x) / y < 18446744073709551616 := by
  refine Nat.div_lt_of_lt_mul ?_
  have := h.rest
  have h3 : (r + 1) * 18446744073709551616 ≤ y * 18446744073709551616 := Nat.mul_le_mul_right _ this
  omega
 have hqi : i < qs.length := by rw [h.len]; omega
 refine ⟨by rw [List.length_set, h.len], small_set h.small _ _ hq, Nat.mod_lt _ hy0, fun j hj hjk => ?_, ?_⟩
 · rw [List.getElem_set_ne (by omega)]
   exact h.low j (by simpa using hj) (by omega)
 · have e := h.eq
   rw [hi1] at e
   rw [hi2, List.drop_eq_getElem_cons (show i < l.length by omega), List.drop_eq_getElem_cons (show i < (qs.set i ((r * 18446744073709551616 + x) / y)).length by rw [List.length_set]; exact hqi), hx', List.getElem_set_self, List.drop_set_of_lt (by omega)]
   have hd := Nat.div_add_mod (r * 18446744073709551616 + x) y
   simp only [val]
   generalize (r * 18446744073709551616 + x) / y = q at *
   generalize (r * 18446744073709551616 + x) % y = r' at *
   generalize val (List.drop (i + 1) qs) = V at *
   rw [← e]
   grind
theorem WordI.done {l : List Nat} (h : WordI l y l.length qs r) (hs : Small l) : val qs = val l / y ∧ r = val l % y := by
 have e := h.eq
 rw [Nat.sub_self, List.drop_zero, List.drop_zero] at e
 have hy0 : 0 < y := Nat.lt_of_le_of_lt (Nat.zero_le _) h.rest
 rw [← e]
 exact ⟨by rw [Nat.add_comm, Nat.add_mul_div_right _ _ hy0, Nat.div_eq_of_lt h.rest, Nat.zero_add], by rw [Nat.add_comm, Nat.add_mul_mod_self_right, Nat.mod_eq_of_lt h.rest]⟩
theorem dtrim_any {l : List Nat} (h : U64s w Z A c l) :
  Calls Tryz.prog 157 #[.slice A l.length c] w fun e w' => e = .returned (.slice A (limbs (val l)).length (limbs (val l)).length) ∧ w = w' := by
 have hlen := h.len
 have hcap := h.cap
 have hmax := h.max
 have hnul := hid h.nul
 go_enter Tryz.func157, Tryz.ntmps157
 go_wp2
 go_loop [0] (fun v => ∃ k : Nat, k ≤ l.length ∧ v = .slice A k c ∧ Hid (∀ j (hj : j < l.length), k ≤ j → l[j] = 0)) (fun v => match v with | .slice _ k _ => k | _ => 0)
 case atStart => exact ⟨_, Nat.le_refl _, rfl, fun j hj hk => absurd hj (by omega)⟩
 case round =>
  obtain ⟨k, hk, rfl, hz⟩ := hrel
  by_cases hk0 : k = 0
  · subst hk0
    have hd : decide ((0 : Int) < ((0 : Nat) : Int)) = false := rfl
    go_wp2_with (go_at_call 83; refine (clip_any (by omega) (by omega) hnul.out).mono ?_; rintro e w' ⟨rfl, rfl⟩)
    go_ret
    have e := trim_take l h.small 0 (by omega) hz.out (.inl rfl)
    rw [← e]
    exact ⟨by simp, rfl⟩
  · obtain ⟨b, o, rfl, _, _, _, hc⟩ := h.open (by omega)
    have hk1 : k - 1 < l.length := by omega
    have hx := hc (k - 1) hk1
    by_cases hl : l[k - 1] = 0
    · have hne : ((l[k - 1] : Int) == 0) = true := by simpa using hl
      have Hl := hid hl
      clear hl
      go_wp2
      go_round
      case rel =>
       refine ⟨k - 1, by omega, ?_, fun j hj hjk => ?_⟩
       · rfl
       · rcases Nat.lt_or_ge j k with h1 | h1
         · obtain rfl : j = k - 1 := by omega
           exact Hl.out
         · exact hz.out j hj h1
      case measure =>
       show k - 1 < k
       omega
    · have hne : ((l[k - 1] : Int) == 0) = false := by simpa using hl
      have Hl := hid hl
      clear hl
      go_wp2_with (go_at_call 83; refine (clip_any (by omega) (by omega) hnul.out).mono ?_; rintro e w' ⟨rfl, rfl⟩)
      go_ret
      have e := trim_take l h.small k hk hz.out (.inr ⟨hk1, Hl.out⟩)
      rw [← e]
      exact ⟨by simp; omega, rfl⟩
def errD (la lb : List Nat) : Int := if good la = true ∧ good lb = true then (if lb.length = 0 then 30 else 0) else 8
theorem dchecked_any {Y : Zone} {a b : Value} {la lb : List Nat} (ha : IsU w Z a la) (hb : IsU w Y b lb) :
  Calls Tryz.prog 149 #[a, b] w fun e w' => e = .returned (.int .i64 (errD la lb)) ∧ w = w' := by
 obtain ⟨A, ca, rfl, ha⟩ := ha
 obtain ⟨B, cb, rfl, hb⟩ := hb
 have hlen := hb.len
 cases hga : good la with
 | false =>
   have hc := check_bad ha hga
   have e1 : errD la lb = 8 := by simp [errD, hga]
   rw [e1]
   have Hc := hid hc
   clear hc e1 hga ha hb
   go_enter Tryz.func149, Tryz.ntmps149
   go_wp2_with fail
   refine Hc.out.mono ?_
   rintro e w1 ⟨rfl, rfl⟩
   go_wp2
   go_ret
   exact ⟨rfl, rfl⟩
 | true =>
   have hc := check_good ha hga
   have Hc := hid hc
   cases hgb : good lb with
   | false =>
     have hd := check_bad hb hgb
     have e1 : errD la lb = 8 := by simp [errD, hgb]
     rw [e1]
     have Hd := hid hd
     clear hc hd e1 hga hgb ha hb
     go_enter Tryz.func149, Tryz.ntmps149
     go_wp2_with fail
     refine Hc.out.mono ?_
     rintro e w1 ⟨rfl, rfl⟩
     go_wp2_with fail
     refine Hd.out.mono ?_
     rintro e w1 ⟨rfl, rfl⟩
     go_wp2
     go_ret
     exact ⟨rfl, rfl⟩
   | true =>
     have hd := check_good hb hgb
     have Hd := hid hd
     by_cases h0 : lb.length = 0
     · have e1 : errD la lb = 30 := by simp [errD, hga, hgb, h0]
       rw [e1]
       rw [h0] at Hd ⊢
       clear hc hd e1 hga hgb ha hb
       go_enter Tryz.func149, Tryz.ntmps149
       go_wp2_with fail
       refine Hc.out.mono ?_
       rintro e w1 ⟨rfl, rfl⟩
       go_wp2_with fail
       refine Hd.out.mono ?_
       rintro e w1 ⟨rfl, rfl⟩
       go_wp2
       go_ret
       exact ⟨rfl, rfl⟩
     · have e1 : errD la lb = 0 := by simp [errD, hga, hgb, h0]
       rw [e1]
       have hz : ((lb.length : Int) == 0) = false := beq_eq_false_iff_ne.2 (by omega)
       clear hc hd e1 hga hgb ha hb
       go_enter Tryz.func149, Tryz.ntmps149
       go_wp2_with fail
       refine Hc.out.mono ?_
       rintro e w1 ⟨rfl, rfl⟩
       go_wp2_with fail
       refine Hd.out.mono ?_
       rintro e w1 ⟨rfl, rfl⟩
       go_wp2
       go_ret
       exact ⟨rfl, rfl⟩
end Go.Proofs.YtcheajjjdbllfaaGreat
