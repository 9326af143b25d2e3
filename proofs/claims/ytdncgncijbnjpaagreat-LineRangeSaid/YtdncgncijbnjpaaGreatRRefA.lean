/- The document's own answer, layer 1: its small functions. No conditions. -/
import Derived.Test.YtdncgncijbnjpaaGreatRNatE
import Derived.Test.YtdncgncijbnjpaaGreatRSize
import Derived.Test.YtdncgncijbnjpaaGreatRBits
import Derived.Test.YtdncgncijbnjpaaGreatRRefM
import Derived.Test.YtdncgncijbnjpaaGreatRSame
import Derived.Test.YtdncgncijbnjpaaGreatRNatD
set_option linter.unusedVariables false
set_option linter.unusedSimpArgs false
set_option maxRecDepth 100000
set_option maxHeartbeats 40000000
namespace Go.Proofs.YtdncgncijbnjpaaGreat
open Go.Lib (hid)
open Go.RowKit
variable {A : Option Addr} {Z : Zone} {a : Value} {b c h q r s y : Nat} {m qs : List Nat}
theorem ret2_int {k : IntKind} {a b : Int} {v : Value} (h : a = b) : Ending.returned (.tuple #[.int k a, v]) = .returned (.tuple #[.int k b, v]) := by rw [h]
theorem long_good {w : World} {n : Nat} (ha : IsN w Z a n) (hl : (limbs n).length ≤ 900000000000) :
  Calls Tryz.prog 249 #[a] w fun e w' => e = .returned (.tuple #[.int .i64 (size n : Int), .int .i64 0]) ∧ w = w' := by
 obtain ⟨A, c, rfl, ha⟩ := ha
 have D := hid (good_limbs n)
 rcases Nat.eq_zero_or_pos (limbs n).length with h0 | h0
 · have E : n = 0 := limbs_eq_nil.1 (List.length_eq_zero_iff.1 h0)
   have B : size n = 0 := size_eq_zero.2 E
   have C := hid B
   have I : (((limbs n).length : Int) == 0) = true := by rw [h0]; rfl
   clear E B h0
   go_enter Tryz.func249, Tryz.ntmps249
   go_wp2_with (go_at_call 223; refine (check_good ha D.out).mono ?_; rintro e w' ⟨rfl, rfl⟩)
   go_ret2
   rw [C.out]
   exact ⟨rfl, rfl⟩
 · obtain ⟨b, o, rfl, _, _, _, H⟩ := ha.open h0
   have F : (limbs n).length - 1 < (limbs n).length := by omega
   have L := H ((limbs n).length - 1) F
   have I : (((limbs n).length : Int) == 0) = false := beq_eq_false_iff_ne.2 (by omega)
   have G := ha.small.get (j := (limbs n).length - 1) F
   obtain ⟨B, K⟩ := size_top h0
   clear K
   have J := hid ha
   clear ha H
   generalize (limbs n)[(limbs n).length - 1] = x at *
   have M : size x ≤ 64 := size_le_of (by omega)
   have N := bitLen_size x G
   have C := hid B
   clear B
   go_enter Tryz.func249, Tryz.ntmps249
   go_wp2_with (first | (go_at_call 223; refine (check_good J.out D.out).mono ?_; rintro e w' ⟨rfl, rfl⟩) | (go_at_call 267; refine (bits_len64 x _ G).mono ?_; rintro e w' ⟨rfl, rfl⟩))
   go_ret2
   refine ⟨ret2_int ?_, rfl⟩
   rw [C.out]
   omega
def upO (q k n : Nat) (m : List Nat) (h : Nat) : List Nat := List.replicate q 0 ++ (m ++ h :: List.replicate (n - k) 0)
theorem upO_length {k n : Nat} (hm : m.length = k) (hk : k ≤ n) : (upO q k n m h).length = q + n + 1 := by
 simp [upO, hm]; omega
theorem upO_at {k n : Nat} (hm : m.length = k) : (upO q k n m h)[q + k]? = some h := by
 unfold upO
 rw [List.getElem?_append_right (by simp)]
 simp only [List.length_replicate, Nat.add_sub_cancel_left]
 rw [List.getElem?_append_right (by omega)]
 simp [hm]
theorem set_mid (R X : List Nat) (i a : Nat) : (R ++ X).set (R.length + i) a = R ++ X.set i a := by
 rw [List.set_append_right _ _ (by omega), Nat.add_sub_cancel_left]
theorem upO_step {k n : Nat} {a : Nat} (hm : m.length = k) (hk : k < n) : ((upO q k n m h).set (q + k) a).set (q + k + 1) b = upO q (k + 1) n (m ++ [a]) b := by
 obtain ⟨j, C⟩ : ∃ j, n - k = j + 1 := ⟨n - k - 1, by omega⟩
 have A : upO q k n m h = List.replicate q 0 ++ (m ++ (h :: 0 :: List.replicate j 0)) := by unfold upO; rw [C, List.replicate_succ]
 have B : upO q (k + 1) n (m ++ [a]) b = List.replicate q 0 ++ (m ++ (a :: b :: List.replicate j 0)) := by unfold upO; rw [show n - (k + 1) = j by omega]; simp
 rw [A, B]
 have D : (List.replicate q 0).length = q := by simp
 generalize List.replicate q 0 = R at *
 generalize List.replicate j 0 = T at *
 clear A B C
 subst D hm
 rw [set_mid, show m.length = m.length + 0 from rfl, set_mid, List.set_cons_zero, Nat.add_assoc, set_mid, Nat.add_zero, set_mid, List.set_cons_succ, List.set_cons_zero]
theorem upO_next {k n : Nat} (hm : m.length = k) (hk : k < n) : (upO q k n m h)[q + k + 1]? = some 0 := by
 unfold upO
 obtain ⟨j, A⟩ : ∃ j, n - k = j + 1 := ⟨n - k - 1, by omega⟩
 rw [A, List.replicate_succ, List.getElem?_append_right (by simp; omega), List.getElem?_append_right (by simp; omega)]
 simp [hm, show q + k + 1 - q - k = 1 by omega]
theorem upO_start (q n : Nat) : upO q 0 n [] 0 = List.replicate (q + n + 1) 0 := by
 unfold upO
 rw [List.nil_append, Nat.sub_zero, ← List.replicate_succ, List.replicate_append_replicate]
 congr 1
structure UpInv (l : List Nat) (s k : Nat) (m : List Nat) (h : Nat) : Prop where
 len : m.length = k
 small : Small m
 high : h < s
 eq : val (m ++ [h]) = val (l.take k) * s
theorem UpInv.start (l : List Nat) (hs : 0 < s) : UpInv l s 0 [] 0 := ⟨rfl, Small.nil, hs, by simp [val]⟩
theorem or_low (h x r : Nat) (hh : h < 2 ^ r) (hr : r ≤ 64) : h ||| (x * 2 ^ r % 18446744073709551616) = h + x * 2 ^ r % 18446744073709551616 := by
 have e : x * 2 ^ r % 18446744073709551616 = 2 ^ r * (x % 2 ^ (64 - r)) := by
  rw [show (18446744073709551616 : Nat) = 2 ^ r * 2 ^ (64 - r) by rw [← Nat.pow_add, show r + (64 - r) = 64 by omega], Nat.mul_comm x, Nat.mul_mod_mul_left]
 rw [e, Nat.or_comm, ← Nat.two_pow_add_eq_or_of_lt hh, Nat.add_comm]
theorem UpInv.step {l : List Nat} {k : Nat} (hi : UpInv l (2 ^ r) k m h) (hk : k < l.length) (hl : Small l) (hr : r < 64) :
  UpInv l (2 ^ r) (k + 1) (m ++ [h + l[k] * 2 ^ r % 18446744073709551616]) (l[k] * 2 ^ r / 18446744073709551616) := by
 have B := hl.get hk
 have A : (18446744073709551616 : Nat) = 2 ^ r * 2 ^ (64 - r) := by rw [← Nat.pow_add, show r + (64 - r) = 64 by omega]
 have C : 0 < 2 ^ r := Nat.pow_pos (by omega)
 have D : h + l[k] * 2 ^ r % 18446744073709551616 < 18446744073709551616 := by
  have e : l[k] * 2 ^ r % 18446744073709551616 = 2 ^ r * (l[k] % 2 ^ (64 - r)) := by rw [A, Nat.mul_comm l[k], Nat.mul_mod_mul_left]
  have E : l[k] % 2 ^ (64 - r) < 2 ^ (64 - r) := Nat.mod_lt _ (Nat.pow_pos (by omega))
  have H := hi.high
  rw [e]
  calc h + 2 ^ r * (l[k] % 2 ^ (64 - r)) < 2 ^ r * 1 + 2 ^ r * (l[k] % 2 ^ (64 - r)) := by omega
   _ = 2 ^ r * (l[k] % 2 ^ (64 - r) + 1) := by rw [← Nat.mul_add, Nat.add_comm]
   _ ≤ 2 ^ r * 2 ^ (64 - r) := Nat.mul_le_mul_left _ E
   _ = 18446744073709551616 := A.symm
 refine ⟨by simp [hi.len], hi.small.append (Small.cons D Small.nil), ?_, ?_⟩
 · rw [Nat.div_lt_iff_lt_mul (by omega), Nat.mul_comm]
   exact Nat.mul_lt_mul_of_pos_left B C
 · have e := hi.eq
   have F : l.take (k + 1) = l.take k ++ [l[k]] := by rw [List.take_succ_eq_append_getElem hk]
   have G : (l.take k).length = k := by rw [List.length_take]; omega
   rw [val_append, hi.len] at e
   rw [F, val_append (l.take k), G, val_append, val_append, List.length_append, hi.len]
   have I := Nat.div_add_mod (l[k] * 2 ^ r) 18446744073709551616
   simp only [val, List.length_cons, List.length_nil, Nat.pow_add, Nat.mul_zero, Nat.add_zero] at e ⊢
   generalize l[k] * 2 ^ r / 18446744073709551616 = hi' at *
   generalize l[k] * 2 ^ r % 18446744073709551616 = lo' at *
   grind
theorem UpInv.done {l : List Nat} (hi : UpInv l (2 ^ r) l.length m h) (hr : r < 64) : Small (upO q l.length l.length m h) ∧ val (upO q l.length l.length m h) = val l * 2 ^ (64 * q + r) := by
 have A := hi.high
 have B : 2 ^ r ≤ 2 ^ 64 := Nat.pow_le_pow_right (by omega) (by omega)
 have e := hi.eq
 rw [List.take_length] at e
 unfold upO
 rw [Nat.sub_self, List.replicate_zero]
 refine ⟨(Small.replicate0 _).append (hi.small.append (Small.cons (by omega) Small.nil)), ?_⟩
 rw [val_append, val_replicate0, e, List.length_replicate, W_pow, Nat.pow_add]
 grind
theorem asked_good {w : World} {n : Nat} (ha : U64s w Z A c (limbs n)) (hb : b ≤ 65536) :
  Calls Tryz.prog 294 #[.slice A (limbs n).length c, .int .i64 (b : Int)] w fun e w' => e = .returned (.int .i64 0) ∧ w = w' := by
 have B := hid (good_limbs n)
 have C : decide ((b : Int) < 0) = false := by simp
 have D : decide ((65536 : Int) < (b : Int)) = false := by simp; omega
 go_enter Tryz.func294, Tryz.ntmps294
 go_wp2_with (go_at_call 223; refine (check_good ha B.out).mono ?_; rintro e w' ⟨rfl, rfl⟩)
 go_ret
 exact ⟨rfl, rfl⟩
theorem norm_words {hi lo t : Nat} (hhi : hi < y) (hlo : lo < 18446744073709551616) (hst : s + t = 64) (hy : y * 2 ^ s < 18446744073709551616) :
  hi * 2 ^ s < 18446744073709551616 ∧ lo / 2 ^ t < 2 ^ s ∧ (hi * 18446744073709551616 + lo) * 2 ^ s = (hi * 2 ^ s + lo / 2 ^ t) * 18446744073709551616 + lo * 2 ^ s % 18446744073709551616 ∧ hi * 2 ^ s + lo / 2 ^ t < y * 2 ^ s := by
 have A : (18446744073709551616 : Nat) = 2 ^ t * 2 ^ s := by rw [← Nat.pow_add, Nat.add_comm, hst]
 have C : 0 < 2 ^ s := Nat.pow_pos (by omega)
 have D : lo / 2 ^ t < 2 ^ s := by
  rw [Nat.div_lt_iff_lt_mul (Nat.pow_pos (by omega)), Nat.mul_comm, ← A]
  exact hlo
 have E : lo * 2 ^ s / 18446744073709551616 = lo / 2 ^ t := by
  rw [A, Nat.mul_div_mul_right _ _ C]
 have B := Nat.div_add_mod (lo * 2 ^ s) 18446744073709551616
 rw [E] at B
 have F : (hi + 1) * 2 ^ s ≤ y * 2 ^ s := Nat.mul_le_mul_right _ hhi
 rw [Nat.add_mul, Nat.one_mul] at F
 generalize 2 ^ s = p at *
 refine ⟨by omega, D, ?_, by omega⟩
 rw [Nat.add_mul, Nat.add_mul, Nat.mul_right_comm, Nat.mul_comm (lo / 2 ^ t), Nat.add_assoc, B]
theorem size_word (h0 : 0 < y) (hy : y < 18446744073709551616) : size y ≤ 64 ∧ 9223372036854775808 ≤ y * 2 ^ (64 - size y) ∧ y * 2 ^ (64 - size y) < 18446744073709551616 := by
 have A : size y ≤ 64 := size_le_of hy
 have B := size_le (n := y) (by omega)
 have C := lt_size y
 have D := size_pos (n := y) (by omega)
 refine ⟨A, ?_, ?_⟩
 · have : 2 ^ (size y - 1) * 2 ^ (64 - size y) ≤ y * 2 ^ (64 - size y) := Nat.mul_le_mul_right _ B
   rw [← Nat.pow_add, show size y - 1 + (64 - size y) = 63 by omega] at this
   exact this
 · have : y * 2 ^ (64 - size y) < 2 ^ size y * 2 ^ (64 - size y) := Nat.mul_lt_mul_of_pos_right C (Nat.pow_pos (by omega))
   rw [← Nat.pow_add, show size y + (64 - size y) = 64 by omega] at this
   exact this
theorem lz64 (y : Nat) (w : World) (h : y < 18446744073709551616) :
  Calls Tryz.prog 285 #[.int .u64 (y : Int)] w fun e w' => e = .returned (.int .i64 ((64 - size y : Nat) : Int)) ∧ w = w' := by
 have B := bits_len64 y w h
 rw [bitLen_size y h] at B
 have D : size y ≤ 64 := size_le_of h
 have E : (64 : Int) - (size y : Int) = ((64 - size y : Nat) : Int) := by omega
 have C := hid B
 clear B
 generalize 64 - size y = s at *
 generalize size y = z at *
 go_enter Tryz.func285, Tryz.ntmps285
 go_wp2_with fail
 refine C.out.mono ?_
 rintro e F ⟨rfl, rfl⟩
 go_wp2
 go_ret
 exact ⟨rfl, rfl⟩
theorem div64_low {lo : Nat} (w : World) (hlo : lo < 18446744073709551616) (hy0 : 0 < y) (hy : y < 18446744073709551616) :
  Calls Tryz.prog 293 #[.int .u64 0, .int .u64 (lo : Int), .int .u64 (y : Int)] w fun e w' => e = .returned (.tuple #[.int .u64 ((lo / y : Nat) : Int), .int .u64 ((lo % y : Nat) : Int)]) ∧ Below w.heap.size w w' := by
 have F : ((y : Int) == 0) = false := beq_eq_false_iff_ne.2 (by omega)
 have G : decide ((y : Int) ≤ 0) = false := decide_eq_false (by omega)
 obtain ⟨q, B⟩ : ∃ q, q = lo / y := ⟨_, rfl⟩
 obtain ⟨r, C⟩ : ∃ r, r = lo % y := ⟨_, rfl⟩
 have D : (lo : Int) / (y : Int) = (q : Int) := by rw [B, Int.natCast_ediv]
 have E : (lo : Int) % (y : Int) = (r : Int) := by rw [C, Int.natCast_emod]
 have H : (lo : Int).tdiv (y : Int) = (q : Int) := by rw [Int.tdiv_eq_ediv_of_nonneg (by omega)]; exact D
 have I : (lo : Int).tmod (y : Int) = (r : Int) := by rw [Int.tmod_eq_emod_of_nonneg (by omega)]; exact E
 have J : q < 18446744073709551616 := by rw [B]; exact Nat.lt_of_le_of_lt (Nat.div_le_self _ _) hlo
 have K : r < 18446744073709551616 := by rw [C]; exact Nat.lt_of_le_of_lt (Nat.mod_le _ _) hlo
 rw [← B, ← C]
 clear B C
 go_enter Tryz.func293, Tryz.ntmps293
 go_wp2
 go_quiet (fail)
 go_wp2
 go_ret2
 exact ⟨rfl, below_drewN' (Below.refl _ _) _⟩
structure Norm (hi lo y s t y1 yh yl h1 l1 u b c1 c0 : Nat) : Prop where
 ey1 : y1 = y * 2 ^ s
 big : 9223372036854775808 ≤ y1
 lt : y1 < 18446744073709551616
 eyh : yh = y1 / 4294967296
 eyl : yl = y1 % 4294967296
 eh1 : h1 = hi * 2 ^ s
 h1l : h1 < 18446744073709551616
 el1 : l1 = lo / 2 ^ t
 orr : h1 ||| l1 = u
 eu : u < y1
 eb : b = lo * 2 ^ s % 18446744073709551616
 ec1 : c1 = b / 4294967296
 ec0 : c0 = b % 4294967296
 all : (hi * 18446744073709551616 + lo) * 2 ^ s = u * 18446744073709551616 + b
theorem norm_all {hi lo : Nat} (hhi : hi < y) (hlo : lo < 18446744073709551616) (hy : y < 18446744073709551616) :
  ∃ s t y1 yh yl h1 l1 u b c1 c0, s = 64 - size y ∧ s ≤ 63 ∧ s + t = 64 ∧ Norm hi lo y s t y1 yh yl h1 l1 u b c1 c0 := by
 obtain ⟨H, C, A⟩ := size_word (y := y) (by omega) hy
 have G := size_pos (n := y) (by omega)
 obtain ⟨n1, D, E, F⟩ := norm_words (t := size y) (s := 64 - size y) hhi hlo (by omega) A
 have B : (hi * 2 ^ (64 - size y)) ||| (lo / 2 ^ size y) = hi * 2 ^ (64 - size y) + lo / 2 ^ size y := by
  rw [Nat.or_comm]
  have h := or_low (lo / 2 ^ size y) hi (64 - size y) D (by omega)
  rw [Nat.mod_eq_of_lt n1] at h
  rw [h, Nat.add_comm]
 exact ⟨64 - size y, size y, _, _, _, _, _, hi * 2 ^ (64 - size y) + lo / 2 ^ size y, _, _, _, rfl, by omega, by omega, rfl, C, A, rfl, rfl, rfl, n1, rfl, B, F, rfl, rfl, rfl, E⟩
theorem e17 {u : Nat} (hy : y < 18446744073709551616) (h0 : 0 < y) (hq : q = (u * 4294967296 + c) / y) :
  IntKind.u64.wrap (IntKind.u64.wrap (IntKind.u64.wrap ((u : Int) * 4294967296) + (c : Int)) - IntKind.u64.wrap ((q : Int) * (y : Int))) = (((u * 4294967296 + c) % y : Nat) : Int) := by
 have h := dig_rest hy h0 hq
 rw [show (u : Int) * 4294967296 = ((u * 4294967296 : Nat) : Int) by omega, Mul64.wrapM, show ((u * 4294967296 % 18446744073709551616 : Nat) : Int) + (c : Int) = ((u * 4294967296 % 18446744073709551616 + c : Nat) : Int) by omega, Mul64.wrapM, ← Int.natCast_mul, Mul64.wrapM, IntKind.wrap_u64, ← h]
 have C : q * y % 18446744073709551616 < 18446744073709551616 := Nat.mod_lt _ (by omega)
 generalize (u * 4294967296 % 18446744073709551616 + c) % 18446744073709551616 = A
 generalize q * y % 18446744073709551616 = B at *
 omega
theorem div64_high {hi lo : Nat} (w : World) (h0 : 0 < hi) (hhi : hi < y) (hlo : lo < 18446744073709551616) (hy : y < 18446744073709551616) :
  Calls Tryz.prog 293 #[.int .u64 (hi : Int), .int .u64 (lo : Int), .int .u64 (y : Int)] w fun e w' => e = .returned (.tuple #[.int .u64 (((hi * 18446744073709551616 + lo) / y : Nat) : Int), .int .u64 (((hi * 18446744073709551616 + lo) % y : Nat) : Int)]) ∧ w = w' := by
 obtain ⟨QQ, Kx⟩ : ∃ Q, Q = (hi * 18446744073709551616 + lo) / y := ⟨_, rfl⟩
 obtain ⟨RR, Ky⟩ : ∃ R, R = (hi * 18446744073709551616 + lo) % y := ⟨_, rfl⟩
 rw [← Kx, ← Ky]
 have d1 : ((y : Int) == 0) = false := beq_eq_false_iff_ne.2 (by omega)
 have d2 : decide (y ≤ hi) = false := decide_eq_false (by omega)
 have d3 : ((hi : Int) == 0) = false := beq_eq_false_iff_ne.2 (by omega)
 have Kt := fun w => lz64 y w hy
 obtain ⟨s, t, y1, yh, yl, S, l1, u, b, c1, c0, hs, KK, KL, N⟩ := norm_all hhi hlo hy
 rw [← hs] at Kt
 obtain ⟨KM, HN⟩ := hid2 Kt N
 have f1 : IntKind.u64.wrap ((y : Int) * 2 ^ s) = (y1 : Int) := by
  rw [IntKind.wrap_u64]
  have := N.ey1
  have := N.lt
  have e : ((y * 2 ^ s : Nat) : Int) = (y : Int) * 2 ^ s := by simp
  rw [← e]
  omega
 have f2 : (y1 : Int) / 4294967296 = (yh : Int) := by have := N.eyh; omega
 have f3 : bits .and .u64 (y1 : Int) 4294967295 = (yl : Int) := by rw [Mul64.maskN _ N.lt, N.eyl]
 have f4 : IntKind.u64.wrap ((hi : Int) * 2 ^ s) = (S : Int) := by
  rw [IntKind.wrap_u64]
  have := N.eh1
  have := N.h1l
  have e : ((hi * 2 ^ s : Nat) : Int) = (hi : Int) * 2 ^ s := by simp
  rw [← e]
  omega
 have f5 : (64 : Int) - (s : Int) = (t : Int) := by omega
 have f6 : (lo : Int) / 2 ^ t = (l1 : Int) := by rw [N.el1]; simp
 have Kz : l1 < 18446744073709551616 := by rw [N.el1]; exact Nat.lt_of_le_of_lt (Nat.div_le_self _ _) hlo
 have KO : u < 18446744073709551616 := Nat.lt_trans N.eu N.lt
 have f7 : bits .or .u64 (S : Int) (l1 : Int) = (u : Int) := by rw [bits_or_u64_nat _ _ N.h1l Kz, N.orr]
 have KA : b < 18446744073709551616 := by rw [N.eb]; exact Nat.mod_lt _ (by omega)
 have f8 : IntKind.u64.wrap ((lo : Int) * 2 ^ s) = (b : Int) := by
  rw [IntKind.wrap_u64, N.eb]
  simp
 have f9 : (b : Int) / 4294967296 = (c1 : Int) := by have := N.ec1; omega
 have KP : bits .and .u64 (b : Int) 4294967295 = (c0 : Int) := by rw [Mul64.maskN _ KA, N.ec0]
 have Kv : 2147483648 ≤ yh := by have := N.eyh; have := N.big; omega
 have KT : yh < 4294967296 := by have := N.eyh; have := N.lt; omega
 have U : yl < 4294967296 := by have := N.eyl; omega
 have Kw : c1 < 4294967296 := by have := N.ec1; omega
 have Ke : c0 < 4294967296 := by have := N.ec0; omega
 have KB := N.lt
 obtain ⟨q, o⟩ : ∃ q, q = u / yh := ⟨_, rfl⟩
 obtain ⟨p, X⟩ : ∃ p, p = q * yh := ⟨_, rfl⟩
 have KC : p ≤ u := by rw [X, o]; exact Nat.div_mul_le_self _ _
 have V : (u : Int) / (yh : Int) = (q : Int) := by rw [o, Int.natCast_ediv]
 have Ka : (q : Int) * (yh : Int) = (p : Int) := by rw [X, Int.natCast_mul]
 obtain ⟨r, hr⟩ : ∃ r, r = u - p := ⟨_, rfl⟩
 have Kb : (u : Int) - (p : Int) = (r : Int) := by omega
 have Ko : r < 18446744073709551616 := by omega
 have Kp : p < 18446744073709551616 := by omega
 have Kf : q < 18446744073709551616 := by rw [o]; exact Nat.lt_of_le_of_lt (Nat.div_le_self _ _) KO
 have Kg : (u : Int).tdiv (yh : Int) = (q : Int) := by rw [Int.tdiv_eq_ediv_of_nonneg (by omega)]; exact V
 have Kq : ¬ (yh = 0) := by omega
 have W : yh * 4294967296 + yl = y1 := by have := N.eyh; have := N.eyl; omega
 have KQ : r < yh := by
  have S := Nat.div_add_mod u yh
  have h2 := Nat.mod_lt u (show 0 < yh by omega)
  rw [← o, Nat.mul_comm, ← X] at S
  omega
 have C : DigI yh yl u c1 q r := by
  have h := DigI.start (yh := yh) (yl := yl) (u := u) (c := c1) (by rw [W]; exact N.eu) Kw Kv U
  rw [← o, ← X, ← hr] at h
  exact h
 have KD : u < yh * 4294967296 + yl := by rw [W]; exact N.eu
 have HD := hid (And.intro C (And.intro KD W))
 have I : r < 4294967296 := by omega
 obtain ⟨u2, Kl⟩ : ∃ u2, u2 = (u * 4294967296 + c1) % y1 := ⟨_, rfl⟩
 have Kr : u2 < y1 := by rw [Kl]; exact Nat.mod_lt _ (by omega)
 obtain ⟨H, Kd⟩ : ∃ q, q = u2 / yh := ⟨_, rfl⟩
 obtain ⟨p2, Km⟩ : ∃ p, p = H * yh := ⟨_, rfl⟩
 have KR : p2 ≤ u2 := by rw [Km, Kd]; exact Nat.div_mul_le_self _ _
 obtain ⟨r2, KN⟩ : ∃ r, r = u2 - p2 := ⟨_, rfl⟩
 have KS : r2 < yh := by
  have S := Nat.div_add_mod u2 yh
  have h2 := Nat.mod_lt u2 (show 0 < yh by omega)
  rw [← Kd, Nat.mul_comm, ← Km] at S
  omega
 have KE : DigI yh yl u2 c0 H r2 := by
  have h := DigI.start (yh := yh) (yl := yl) (u := u2) (c := c0) (by rw [W]; exact Kr) Ke Kv U
  rw [← Kd, ← Km, ← KN] at h
  exact h
 have Kc := hid (And.intro KE (show u2 < yh * 4294967296 + yl by rw [W]; exact Kr))
 have KF : r2 < 4294967296 := by omega
 have KG : H < 18446744073709551616 := by rw [Kd]; exact Nat.lt_of_le_of_lt (Nat.div_le_self _ _) (by omega)
 have KH : IntKind.u64.wrap ((u2 : Int).tdiv (yh : Int)) = (H : Int) := by
  rw [Int.tdiv_eq_ediv_of_nonneg (by omega), ← Int.natCast_ediv, ← Kd, Mul64.wrapN H KG]
 have KI : IntKind.u64.wrap ((u2 : Int) - IntKind.u64.wrap ((H : Int) * (yh : Int))) = (r2 : Int) := by
  rw [← Int.natCast_mul, ← Km, Mul64.wrapN p2 (by omega), show (u2 : Int) - (p2 : Int) = (r2 : Int) by omega, Mul64.wrapN r2 (by omega)]
 have H2 := hid (And.intro KH KI)
 have KJ : Hid (∀ q, q = (u * 4294967296 + c1) / (yh * 4294967296 + yl) → IntKind.u64.wrap (IntKind.u64.wrap (IntKind.u64.wrap ((u : Int) * 4294967296) + (c1 : Int)) - IntKind.u64.wrap ((q : Int) * (y1 : Int))) = (u2 : Int)) := fun q o => by
  rw [Kl]
  exact e17 KB (by omega) (by rw [o, W])
 have Ks : Hid (∀ q H, q = (u * 4294967296 + c1) / (yh * 4294967296 + yl) → H = (u2 * 4294967296 + c0) / (yh * 4294967296 + yl) →
   Ending.returned (.tuple #[.int .u64 (IntKind.u64.wrap (IntKind.u64.wrap ((q : Int) * 4294967296) + (H : Int))), .int .u64 (IntKind.u64.wrap (IntKind.u64.wrap (IntKind.u64.wrap ((u2 : Int) * 4294967296) + (c0 : Int)) - IntKind.u64.wrap ((H : Int) * (y1 : Int))) / 2 ^ min s 64)]) =
   Ending.returned (.tuple #[.int .u64 (QQ : Int), .int .u64 (RR : Int)])) := fun q H S h2 => by
  rw [Kx, Ky, Nat.min_eq_left (show s ≤ 64 by omega)]
  rw [W] at S h2
  obtain ⟨k1, k2⟩ := two_digs (y := y1) (by omega) N.all
  rw [← N.ec1, ← N.ec0, ← Kl, ← S, ← h2] at k1
  rw [← N.ec1, ← N.ec0, ← Kl] at k2
  have X : 0 < 2 ^ s := Nat.pow_pos (by omega)
  rw [N.ey1, Nat.mul_div_mul_right _ _ X] at k1
  have k3 : (hi * 18446744073709551616 + lo) % y = (u2 * 4294967296 + c0) % y1 / 2 ^ s := by
   rw [← k2, N.ey1, Nat.mul_mod_mul_right, Nat.mul_div_cancel _ X]
  have KU : q < 4294967296 := by
   rw [S]
   refine Nat.div_lt_of_lt_mul ?_
   have := N.eu
   have h3 : (u + 1) * 4294967296 ≤ y1 * 4294967296 := Nat.mul_le_mul_right _ this
   omega
  have KV : H < 4294967296 := by
   rw [h2]
   refine Nat.div_lt_of_lt_mul ?_
   have h3 : (u2 + 1) * 4294967296 ≤ y1 * 4294967296 := Nat.mul_le_mul_right _ Kr
   omega
  rw [e17 KB (by omega) h2, show (q : Int) * 4294967296 = ((q * 4294967296 : Nat) : Int) by omega, Mul64.wrapN _ (by omega), show ((q * 4294967296 : Nat) : Int) + (H : Int) = ((q * 4294967296 + H : Nat) : Int) by omega, Mul64.wrapN _ (by omega), k1, k3]
  congr 3
 obtain ⟨HF, HS⟩ := hid2 (And.intro V (And.intro Ka (And.intro Kb (And.intro Kg Kq)))) (And.intro KL (And.intro KK (And.intro KC Kv)))
 clear Kt N hs V Ka Kb Kg Kq KL KK KC X o hr hlo hhi hy C KD W KQ KH KI KG KE KS KN KR Km Kd Kr Kl Kx Ky
 go_enter Tryz.func293, Tryz.ntmps293
 go_wp2_with fail
 refine (KM.out _).mono ?_
 rintro e w1 ⟨rfl, rfl⟩
 go_wp2
 obtain ⟨V, Ka, Kb, Kg, Kq⟩ := HF.out
 clear f1 f2 f3 f4 f5 f6 f7 f8 f9 KP d1 d2 d3
 go_wp2
 clear V Ka Kb Kg Kq KM Kz KA
 have HW := hid (And.intro Kp (And.intro Ko Kf))
 clear Kp Ko Kf
 go_loop [15, 16] (fun a b => ∃ q r : Nat, a = .int .u64 (q : Int) ∧ b = .int .u64 (r : Int) ∧ Hid (DigI yh yl u c1 q r) ∧ r < 4294967296 ∧ q ≤ 4294967297) (fun a _ => (intOf a).toNat)
 case atStart =>
  obtain ⟨V, Ka, Kb, Kg, _⟩ := HF.out
  obtain ⟨Kp, Ko, Kf⟩ := HW.out
  refine ⟨q, r, ?_, ?_, HD.out.1, I, HD.out.1.top⟩
  · rw [V, Mul64.wrapN q Kf]
  · rw [V, Mul64.wrapN q Kf, Ka, Mul64.wrapN p Kp, Kb, Mul64.wrapN r Ko]
 case round =>
  clear I
  obtain ⟨q, r, rfl, rfl, C, I, v⟩ := hrel
  obtain ⟨K, L⟩ := C.out.fits U Kw I
  obtain ⟨D, E⟩ : ∃ D, D = q * yl := ⟨_, rfl⟩
  obtain ⟨m, F⟩ : ∃ m, m = 4294967296 * r := ⟨_, rfl⟩
  obtain ⟨n, G⟩ : ∃ n, n = m + c1 := ⟨_, rfl⟩
  rw [← E] at K
  rw [← F, ← G] at L
  have Y : (q : Int) * (yl : Int) = (D : Int) := by rw [E, Int.natCast_mul]
  have Z : (4294967296 : Int) * (r : Int) = (m : Int) := by omega
  have d : (m : Int) + (c1 : Int) = (n : Int) := by omega
  have g : m < 18446744073709551616 := by omega
  by_cases hgo : 4294967296 ≤ q ∨ n < D
  · obtain ⟨Kn, M, O⟩ := C.out.next HD.out.2.1 Kw (by omega) (by rw [← F, ← G, ← E]; exact hgo)
    obtain ⟨q', P⟩ : ∃ q', q' = q - 1 := ⟨_, rfl⟩
    obtain ⟨B, x⟩ : ∃ B, B = r + yh := ⟨_, rfl⟩
    rw [← P, ← x] at M
    rw [← P] at O
    have e4 : (q : Int) - 1 = (q' : Int) := by omega
    have e5 : (r : Int) + (yh : Int) = (B : Int) := by omega
    have Kh : B < 18446744073709551616 := by omega
    have Ki : q' < q := by omega
    have J := hid M
    clear M E F G P x
    have i : (4294967296 : Int) ≤ (q : Int) ∨ (decide ((4294967296 : Int) ≤ (q : Int)) = false ∧ n < D) := by
     rcases Nat.lt_or_ge q 4294967296 with h | h
     · exact .inr ⟨decide_eq_false (by omega), by omega⟩
     · exact .inl (by omega)
    clear hgo
    by_cases hbr : 4294967296 ≤ B
    · have j : (4294967296 : Int) ≤ (B : Int) := by omega
      have T := hid (J.out.brk (by omega) U O hbr)
      rcases i with hc | ⟨hc, hc2⟩
      all_goals
       go_wp2
       clear j hbr Y Z d e4 e5 g K L v I O Kh Ki Kn C J
       obtain ⟨Q, hQ⟩ : ∃ Q, Q = q' := ⟨_, rfl⟩
       rw [← hQ] at T ⊢
       clear hQ
       rw [KJ.out _ T.out, H2.out.1, H2.out.2]
       go_loop [18, 16] (fun a b => ∃ q r : Nat, a = .int .u64 (q : Int) ∧ b = .int .u64 (r : Int) ∧ Hid (DigI yh yl u2 c0 q r) ∧ r < 4294967296 ∧ q ≤ 4294967297) (fun a _ => (intOf a).toNat)
       case atStart => exact ⟨H, r2, rfl, rfl, Kc.out.1, KF, Kc.out.1.top⟩
       case round =>
        obtain ⟨q, r, rfl, rfl, C, I, v⟩ := hrel
        obtain ⟨K, L⟩ := C.out.fits U Ke I
        obtain ⟨D, E⟩ : ∃ D, D = q * yl := ⟨_, rfl⟩
        obtain ⟨m, F⟩ : ∃ m, m = 4294967296 * r := ⟨_, rfl⟩
        obtain ⟨n, G⟩ : ∃ n, n = m + c0 := ⟨_, rfl⟩
        rw [← E] at K
        rw [← F, ← G] at L
        have Y : (q : Int) * (yl : Int) = (D : Int) := by rw [E, Int.natCast_mul]
        have Z : (4294967296 : Int) * (r : Int) = (m : Int) := by omega
        have d : (m : Int) + (c0 : Int) = (n : Int) := by omega
        have g : m < 18446744073709551616 := by omega
        by_cases hgo : 4294967296 ≤ q ∨ n < D
        · obtain ⟨Kn, M, O⟩ := C.out.next Kc.out.2 Ke (by omega) (by rw [← F, ← G, ← E]; exact hgo)
          obtain ⟨q', P⟩ : ∃ q', q' = q - 1 := ⟨_, rfl⟩
          obtain ⟨B, x⟩ : ∃ B, B = r + yh := ⟨_, rfl⟩
          rw [← P, ← x] at M
          rw [← P] at O
          have e4 : (q : Int) - 1 = (q' : Int) := by omega
          have e5 : (r : Int) + (yh : Int) = (B : Int) := by omega
          have Kh : B < 18446744073709551616 := by omega
          have Ki : q' < q := by omega
          have J := hid M
          clear M E F G P x
          have i : (4294967296 : Int) ≤ (q : Int) ∨ (decide ((4294967296 : Int) ≤ (q : Int)) = false ∧ n < D) := by
           rcases Nat.lt_or_ge q 4294967296 with h | h
           · exact .inr ⟨decide_eq_false (by omega), by omega⟩
           · exact .inl (by omega)
          clear hgo
          by_cases hbr : 4294967296 ≤ B
          · have j : (4294967296 : Int) ≤ (B : Int) := by omega
            have z := hid (J.out.brk (by omega) U O hbr)
            rcases i with hc | ⟨hc, hc2⟩
            all_goals
             go_wp2
             clear j hbr Y Z d e4 e5 g K L v I O Kh Ki Kn C J
             go_ret2
             exact ⟨Ks.out _ _ T.out z.out, rfl⟩
          · have j : decide ((4294967296 : Int) ≤ (B : Int)) = false := decide_eq_false (by omega)
            rcases i with hc | ⟨hc, hc2⟩
            all_goals
             go_wp2
             go_round
             case rel => exact ⟨q', B, rfl, rfl, J, by omega, by omega⟩
             case measure => simp [intOf]; omega
        · have Kj : decide ((4294967296 : Int) ≤ (q : Int)) = false := decide_eq_false (by omega)
          have Kk : decide (n < D) = false := decide_eq_false (by omega)
          have z := hid (C.out.done (by omega) (by rw [← E, ← F, ← G]; omega))
          clear hgo E F G
          go_wp2
          clear Kj Kk Y Z d g K L v I C
          go_ret2
          exact ⟨Ks.out _ _ T.out z.out, rfl⟩
    · have j : decide ((4294967296 : Int) ≤ (B : Int)) = false := decide_eq_false (by omega)
      rcases i with hc | ⟨hc, hc2⟩
      all_goals
       go_wp2
       go_round
       case rel => exact ⟨q', B, rfl, rfl, J, by omega, by omega⟩
       case measure => simp [intOf]; omega
  · have Kj : decide ((4294967296 : Int) ≤ (q : Int)) = false := decide_eq_false (by omega)
    have Kk : decide (n < D) = false := decide_eq_false (by omega)
    have T := hid (C.out.done (by omega) (by rw [← E, ← F, ← G]; omega))
    clear hgo E F G
    go_wp2
    clear Kj Kk Y Z d g K L v I C
    obtain ⟨Q, hQ⟩ : ∃ Q, Q = q := ⟨_, rfl⟩
    rw [← hQ] at T ⊢
    clear hQ
    rw [KJ.out _ T.out, H2.out.1, H2.out.2]
    go_loop [18, 16] (fun a b => ∃ q r : Nat, a = .int .u64 (q : Int) ∧ b = .int .u64 (r : Int) ∧ Hid (DigI yh yl u2 c0 q r) ∧ r < 4294967296 ∧ q ≤ 4294967297) (fun a _ => (intOf a).toNat)
    case atStart => exact ⟨H, r2, rfl, rfl, Kc.out.1, KF, Kc.out.1.top⟩
    case round =>
     obtain ⟨q, r, rfl, rfl, C, I, v⟩ := hrel
     obtain ⟨K, L⟩ := C.out.fits U Ke I
     obtain ⟨D, E⟩ : ∃ D, D = q * yl := ⟨_, rfl⟩
     obtain ⟨m, F⟩ : ∃ m, m = 4294967296 * r := ⟨_, rfl⟩
     obtain ⟨n, G⟩ : ∃ n, n = m + c0 := ⟨_, rfl⟩
     rw [← E] at K
     rw [← F, ← G] at L
     have Y : (q : Int) * (yl : Int) = (D : Int) := by rw [E, Int.natCast_mul]
     have Z : (4294967296 : Int) * (r : Int) = (m : Int) := by omega
     have d : (m : Int) + (c0 : Int) = (n : Int) := by omega
     have g : m < 18446744073709551616 := by omega
     by_cases hgo : 4294967296 ≤ q ∨ n < D
     · obtain ⟨Kn, M, O⟩ := C.out.next Kc.out.2 Ke (by omega) (by rw [← F, ← G, ← E]; exact hgo)
       obtain ⟨q', P⟩ : ∃ q', q' = q - 1 := ⟨_, rfl⟩
       obtain ⟨B, x⟩ : ∃ B, B = r + yh := ⟨_, rfl⟩
       rw [← P, ← x] at M
       rw [← P] at O
       have e4 : (q : Int) - 1 = (q' : Int) := by omega
       have e5 : (r : Int) + (yh : Int) = (B : Int) := by omega
       have Kh : B < 18446744073709551616 := by omega
       have Ki : q' < q := by omega
       have J := hid M
       clear M E F G P x
       have i : (4294967296 : Int) ≤ (q : Int) ∨ (decide ((4294967296 : Int) ≤ (q : Int)) = false ∧ n < D) := by
        rcases Nat.lt_or_ge q 4294967296 with h | h
        · exact .inr ⟨decide_eq_false (by omega), by omega⟩
        · exact .inl (by omega)
       clear hgo
       by_cases hbr : 4294967296 ≤ B
       · have j : (4294967296 : Int) ≤ (B : Int) := by omega
         have z := hid (J.out.brk (by omega) U O hbr)
         rcases i with hc | ⟨hc, hc2⟩
         all_goals
          go_wp2
          clear j hbr Y Z d e4 e5 g K L v I O Kh Ki Kn C J
          go_ret2
          exact ⟨Ks.out _ _ T.out z.out, rfl⟩
       · have j : decide ((4294967296 : Int) ≤ (B : Int)) = false := decide_eq_false (by omega)
         rcases i with hc | ⟨hc, hc2⟩
         all_goals
          go_wp2
          go_round
          case rel => exact ⟨q', B, rfl, rfl, J, by omega, by omega⟩
          case measure => simp [intOf]; omega
     · have Kj : decide ((4294967296 : Int) ≤ (q : Int)) = false := decide_eq_false (by omega)
       have Kk : decide (n < D) = false := decide_eq_false (by omega)
       have z := hid (C.out.done (by omega) (by rw [← E, ← F, ← G]; omega))
       clear hgo E F G
       go_wp2
       clear Kj Kk Y Z d g K L v I C
       go_ret2
       exact ⟨Ks.out _ _ T.out z.out, rfl⟩
theorem div64_any {hi lo : Nat} (w : World) (hhi : hi < y) (hlo : lo < 18446744073709551616) (hy : y < 18446744073709551616) :
  Calls Tryz.prog 293 #[.int .u64 (hi : Int), .int .u64 (lo : Int), .int .u64 (y : Int)] w fun e w' => e = .returned (.tuple #[.int .u64 (((hi * 18446744073709551616 + lo) / y : Nat) : Int), .int .u64 (((hi * 18446744073709551616 + lo) % y : Nat) : Int)]) ∧ Below w.heap.size w w' := by
 rcases Nat.eq_zero_or_pos hi with rfl | h0
 · rw [Nat.zero_mul, Nat.zero_add]
   exact div64_low w hlo hhi hy
 · refine (div64_high w h0 hhi hlo hy).mono ?_
   rintro e w' ⟨rfl, rfl⟩
   exact ⟨rfl, Below.refl _ _⟩
structure WordI (l : List Nat) (y k : Nat) (qs : List Nat) (r : Nat) : Prop where
 len : qs.length = l.length
 small : Small qs
 rest : r < y
 low : ∀ j (h : j < qs.length), j + k < l.length → qs[j] = 0
 eq : val (qs.drop (l.length - k)) * y + r = val (l.drop (l.length - k))
theorem WordI.start {l : List Nat} (hy : 0 < y) : WordI l y 0 (List.replicate l.length 0) 0 :=
 ⟨by simp, Small.replicate0 _, hy, fun j h _ => by simp, by simp [val]⟩
theorem WordI.step {l : List Nat} {k : Nat} (h : WordI l y k qs r) (hs : Small l) (hy : y < 18446744073709551616) (hk : k < l.length) :
  ∃ hl : l.length - 1 - k < l.length, WordI l y (k + 1) (qs.set (l.length - 1 - k) ((r * 18446744073709551616 + l[l.length - 1 - k]) / y)) ((r * 18446744073709551616 + l[l.length - 1 - k]) % y) := by
 have hl : l.length - 1 - k < l.length := by omega
 refine ⟨hl, ?_⟩
 obtain ⟨i, hi⟩ : ∃ i, i = l.length - 1 - k := ⟨_, rfl⟩
 have A : l.length - k = i + 1 := by omega
 have B : l.length - (k + 1) = i := by omega
 have C : l[l.length - 1 - k]'hl = l[i]'(by omega) := by subst hi; rfl
 rw [C, ← hi]
 have G := hs.get (show i < l.length by omega)
 generalize hx' : l[i]'(by omega) = x at *
 have D : 0 < y := Nat.lt_of_le_of_lt (Nat.zero_le _) h.rest
 have E : (r * 18446744073709551616 + x) / y < 18446744073709551616 := by
  refine Nat.div_lt_of_lt_mul ?_
  have := h.rest
  have H : (r + 1) * 18446744073709551616 ≤ y * 18446744073709551616 := Nat.mul_le_mul_right _ this
  omega
 have F : i < qs.length := by rw [h.len]; omega
 refine ⟨by rw [List.length_set, h.len], small_set h.small _ _ E, Nat.mod_lt _ D, fun j hj hjk => ?_, ?_⟩
 · rw [List.getElem_set_ne (by omega)]
   exact h.low j (by simpa using hj) (by omega)
 · have e := h.eq
   rw [A] at e
   rw [B, List.drop_eq_getElem_cons (show i < l.length by omega), List.drop_eq_getElem_cons (show i < (qs.set i ((r * 18446744073709551616 + x) / y)).length by rw [List.length_set]; exact F), hx', List.getElem_set_self, List.drop_set_of_lt (by omega)]
   have I := Nat.div_add_mod (r * 18446744073709551616 + x) y
   simp only [val]
   generalize (r * 18446744073709551616 + x) / y = q at *
   generalize (r * 18446744073709551616 + x) % y = r' at *
   generalize val (List.drop (i + 1) qs) = V at *
   rw [← e]
   grind
theorem WordI.done {l : List Nat} (h : WordI l y l.length qs r) (hs : Small l) : val qs = val l / y ∧ r = val l % y := by
 have e := h.eq
 rw [Nat.sub_self, List.drop_zero, List.drop_zero] at e
 have A : 0 < y := Nat.lt_of_le_of_lt (Nat.zero_le _) h.rest
 rw [← e]
 exact ⟨by rw [Nat.add_comm, Nat.add_mul_div_right _ _ A, Nat.div_eq_of_lt h.rest, Nat.zero_add], by rw [Nat.add_comm, Nat.add_mul_mod_self_right, Nat.mod_eq_of_lt h.rest]⟩
theorem dtrim_any {w : World} {l : List Nat} (h : U64s w Z A c l) :
  Calls Tryz.prog 291 #[.slice A l.length c] w fun e w' => e = .returned (.slice A (limbs (val l)).length (limbs (val l)).length) ∧ w = w' := by
 have I := h.len
 have J := h.cap
 have K := h.max
 have D := hid h.nul
 go_enter Tryz.func291, Tryz.ntmps291
 go_wp2
 go_loop [0] (fun v => ∃ k : Nat, k ≤ l.length ∧ v = .slice A k c ∧ Hid (∀ j (hj : j < l.length), k ≤ j → l[j] = 0)) (fun v => match v with | .slice _ k _ => k | _ => 0)
 case atStart => exact ⟨_, Nat.le_refl _, rfl, fun j hj F => absurd hj (by omega)⟩
 case round =>
  obtain ⟨k, F, rfl, C⟩ := hrel
  by_cases hk0 : k = 0
  · subst hk0
    have L : decide ((0 : Int) < ((0 : Nat) : Int)) = false := rfl
    go_wp2_with (go_at_call 215; refine (clip_any (by omega) (by omega) D.out).mono ?_; rintro e w' ⟨rfl, rfl⟩)
    go_ret
    have e := trim_take l h.small 0 (by omega) C.out (.inl rfl)
    rw [← e]
    exact ⟨by simp, rfl⟩
  · obtain ⟨b, o, rfl, _, _, _, H⟩ := h.open (by omega)
    have E : k - 1 < l.length := by omega
    have M := H (k - 1) E
    by_cases hl : l[k - 1] = 0
    · have G : ((l[k - 1] : Int) == 0) = true := by simpa using hl
      have B := hid hl
      clear hl
      go_wp2
      go_round
      case rel =>
       refine ⟨k - 1, by omega, ?_, fun j hj hjk => ?_⟩
       · rfl
       · rcases Nat.lt_or_ge j k with h1 | h1
         · obtain rfl : j = k - 1 := by omega
           exact B.out
         · exact C.out j hj h1
      case measure =>
       show k - 1 < k
       omega
    · have G : ((l[k - 1] : Int) == 0) = false := by simpa using hl
      have B := hid hl
      clear hl
      go_wp2_with (go_at_call 215; refine (clip_any (by omega) (by omega) D.out).mono ?_; rintro e w' ⟨rfl, rfl⟩)
      go_ret
      have e := trim_take l h.small k F C.out (.inr ⟨E, B.out⟩)
      rw [← e]
      exact ⟨by simp; omega, rfl⟩
def errD (la lb : List Nat) : Int := if good la = true ∧ good lb = true then (if lb.length = 0 then 30 else 0) else 8
theorem dchecked_any {w : World} {Y : Zone} {b : Value} {la lb : List Nat} (ha : IsU w Z a la) (hb : IsU w Y b lb) :
  Calls Tryz.prog 283 #[a, b] w fun e w' => e = .returned (.int .i64 (errD la lb)) ∧ w = w' := by
 obtain ⟨A, K, rfl, ha⟩ := ha
 obtain ⟨B, L, rfl, hb⟩ := hb
 have I := hb.len
 cases hga : good la with
 | false =>
   have D := check_bad ha hga
   have C : errD la lb = 8 := by simp [errD, hga]
   rw [C]
   have G := hid D
   clear D C hga ha hb
   go_enter Tryz.func283, Tryz.ntmps283
   go_wp2_with fail
   refine G.out.mono ?_
   rintro e F ⟨rfl, rfl⟩
   go_wp2
   go_ret
   exact ⟨rfl, rfl⟩
 | true =>
   have D := check_good ha hga
   have G := hid D
   cases hgb : good lb with
   | false =>
     have E := check_bad hb hgb
     have C : errD la lb = 8 := by simp [errD, hgb]
     rw [C]
     have H := hid E
     clear D E C hga hgb ha hb
     go_enter Tryz.func283, Tryz.ntmps283
     go_wp2_with fail
     refine G.out.mono ?_
     rintro e F ⟨rfl, rfl⟩
     go_wp2_with fail
     refine H.out.mono ?_
     rintro e F ⟨rfl, rfl⟩
     go_wp2
     go_ret
     exact ⟨rfl, rfl⟩
   | true =>
     have E := check_good hb hgb
     have H := hid E
     by_cases h0 : lb.length = 0
     · have C : errD la lb = 30 := by simp [errD, hga, hgb, h0]
       rw [C]
       rw [h0] at H ⊢
       clear D E C hga hgb ha hb
       go_enter Tryz.func283, Tryz.ntmps283
       go_wp2_with fail
       refine G.out.mono ?_
       rintro e F ⟨rfl, rfl⟩
       go_wp2_with fail
       refine H.out.mono ?_
       rintro e F ⟨rfl, rfl⟩
       go_wp2
       go_ret
       exact ⟨rfl, rfl⟩
     · have C : errD la lb = 0 := by simp [errD, hga, hgb, h0]
       rw [C]
       have J : ((lb.length : Int) == 0) = false := beq_eq_false_iff_ne.2 (by omega)
       clear D E C hga hgb ha hb
       go_enter Tryz.func283, Tryz.ntmps283
       go_wp2_with fail
       refine G.out.mono ?_
       rintro e F ⟨rfl, rfl⟩
       go_wp2_with fail
       refine H.out.mono ?_
       rintro e F ⟨rfl, rfl⟩
       go_wp2
       go_ret
       exact ⟨rfl, rfl⟩
end Go.Proofs.YtdncgncijbnjpaaGreat
