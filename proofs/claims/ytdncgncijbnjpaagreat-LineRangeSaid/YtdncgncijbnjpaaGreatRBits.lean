/- The contracts of math/bits.Len64, Len and Mul64: turned from the shelf's own walks to this program. No conditions. -/
import Derived.WalkKit
import Derived.WalkSpells
import Derived.WalkLawsBesides
import Derived.Lib.Strings
import Derived.Lib.Slices
import Derived.Lib.Small
import Derived.Lib.Walk
import Derived.Lib.BitFns
import Derived.Lib.Mul64
import Derived.Lib.Tables
import Derived.Deep.Light
import Derived.Laws.Bits64b
import Derived.Test.YtdncgncijbnjpaaGreatProg
import Derived.Test.YtdncgncijbnjpaaGreatRMem
set_option linter.unusedVariables false
set_option linter.unusedSimpArgs false
set_option maxRecDepth 100000
set_option maxHeartbeats 40000000
namespace Go.Proofs.YtdncgncijbnjpaaGreat
open Go.RowKit Go.Lib
theorem len8tab_size : (Lib.len8tab.size : Int) = 256 := by
 have : Lib.len8tab.size = 256 := by decide
 omega
theorem wrap_add (k a b : Nat) (hk : k ≤ 56) (ha : a ≤ 8) (hb : b = k + a) : RowKit.wrap64 ((k : Int) + RowKit.wrap64 (a : Int)) = (b : Int) := by
 unfold RowKit.wrap64
 omega
theorem wrap_wrap (a : Nat) (ha : a ≤ 8) : RowKit.wrap64 (RowKit.wrap64 (a : Int)) = (a : Int) := by
 unfold RowKit.wrap64
 omega
theorem wrap_one (a : Nat) (ha : a ≤ 8) : RowKit.wrap64 (a : Int) = (a : Int) := by
 unfold RowKit.wrap64
 omega
theorem len8_get (y : Int) (h : y.toNat < Lib.len8tab.size) : ((Lib.len8tab[y.toNat]'h).toNat : Int) = Lib.len8 y := by
 unfold Lib.len8
 rw [getElem?_pos Lib.len8tab y.toNat h]
 rfl
theorem bits_Len64 (x : Int) (w : World) (h0 : 0 ≤ x) (h1 : x ≤ 18446744073709551615) :
  Calls Tryz.prog 267 #[.int .u64 x] w fun e w' => e = .returned (.int .i64 (Lib.bitLen x.toNat)) ∧ w' = w := by
 go_enter Tryz.func267, Tryz.ntmps267
 go_wp2
 all_goals first
  | (go_ret; refine ⟨congrArg Ending.returned (congrArg (Value.int IntKind.i64) ?_), rfl⟩; go_light)
  | (exfalso
     go_light
     have B := len8tab_size
     omega)
 all_goals first
  | (rw [len8_get (x / 4294967296 / 65536 / 256) _, Lib.len8_of (x / 4294967296 / 65536 / 256) (by omega) (by omega)]
     have e : (x / 4294967296 / 65536 / 256).toNat = x.toNat / 72057594037927936 := by omega
     have l := Lib.bitLen_le8' (x / 4294967296 / 65536 / 256) (by omega) (by omega)
     have s := Lib.bitLen_shift56 x.toNat (by omega) (by omega)
     rw [e] at l ⊢
     exact wrap_add 56 _ _ (by decide) l s)
  | (rw [len8_get (x / 4294967296 / 65536) _, Lib.len8_of (x / 4294967296 / 65536) (by omega) (by omega)]
     have e : (x / 4294967296 / 65536).toNat = x.toNat / 281474976710656 := by omega
     have l := Lib.bitLen_le8' (x / 4294967296 / 65536) (by omega) (by omega)
     have s := Lib.bitLen_shift48 x.toNat (by omega) (by omega)
     rw [e] at l ⊢
     exact wrap_add 48 _ _ (by decide) l s)
  | (rw [len8_get (x / 4294967296 / 256) _, Lib.len8_of (x / 4294967296 / 256) (by omega) (by omega)]
     have e : (x / 4294967296 / 256).toNat = x.toNat / 1099511627776 := by omega
     have l := Lib.bitLen_le8' (x / 4294967296 / 256) (by omega) (by omega)
     have s := Lib.bitLen_shift40 x.toNat (by omega) (by omega)
     rw [e] at l ⊢
     exact wrap_add 40 _ _ (by decide) l s)
  | (rw [len8_get (x / 4294967296) _, Lib.len8_of (x / 4294967296) (by omega) (by omega)]
     have e : (x / 4294967296).toNat = x.toNat / 4294967296 := by omega
     have l := Lib.bitLen_le8' (x / 4294967296) (by omega) (by omega)
     have s := Lib.bitLen_shift32 x.toNat (by omega) (by omega)
     rw [e] at l ⊢
     exact wrap_add 32 _ _ (by decide) l s)
  | (rw [len8_get (x / 65536 / 256) _, Lib.len8_of (x / 65536 / 256) (by omega) (by omega)]
     have e : (x / 65536 / 256).toNat = x.toNat / 16777216 := by omega
     have l := Lib.bitLen_le8' (x / 65536 / 256) (by omega) (by omega)
     have s := Lib.bitLen_shift24 x.toNat (by omega) (by omega)
     rw [e] at l ⊢
     exact wrap_add 24 _ _ (by decide) l s)
  | (rw [len8_get (x / 65536) _, Lib.len8_of (x / 65536) (by omega) (by omega)]
     have e : (x / 65536).toNat = x.toNat / 65536 := by omega
     have l := Lib.bitLen_le8' (x / 65536) (by omega) (by omega)
     have s := Lib.bitLen_shift16 x.toNat (by omega) (by omega)
     rw [e] at l ⊢
     exact wrap_add 16 _ _ (by decide) l s)
  | (rw [len8_get (x / 256) _, Lib.len8_of (x / 256) (by omega) (by omega)]
     have e : (x / 256).toNat = x.toNat / 256 := by omega
     have l := Lib.bitLen_le8' (x / 256) (by omega) (by omega)
     have s := Lib.bitLen_shift8 x.toNat (by omega) (by omega)
     rw [e] at l ⊢
     exact wrap_add 8 _ _ (by decide) l s)
  | (rw [len8_get (x) _, Lib.len8_of (x) (by omega) (by omega)]
     have e : (x).toNat = x.toNat := by omega
     have l := Lib.bitLen_le8' (x) (by omega) (by omega)
     rw [e] at l ⊢
     first | exact wrap_wrap _ l | exact wrap_add 0 _ _ (by decide) l (by omega) | exact wrap_one _ l)
namespace Mul64
theorem maskN (a : Nat) (ha : a < 18446744073709551616) : bits .and .u64 (a : Int) 4294967295 = ((a % 4294967296 : Nat) : Int) := by
 have h := bits_and_u64_nat a 4294967295 ha (by omega)
 have e : a &&& 4294967295 = a % 4294967296 := Nat.and_two_pow_sub_one_eq_mod a 32
 rw [e] at h
 exact h
theorem divN (a : Nat) : (a : Int) / 4294967296 = ((a / 4294967296 : Nat) : Int) := by omega
theorem mulN (a b : Nat) : (a : Int) * (b : Int) = ((a * b : Nat) : Int) := (Int.natCast_mul a b).symm
theorem addN (a b : Nat) : (a : Int) + (b : Int) = ((a + b : Nat) : Int) := (Int.natCast_add a b).symm
theorem wrapN (a : Nat) (ha : a < 18446744073709551616) : IntKind.u64.wrap (a : Int) = (a : Int) := by rw [IntKind.wrap_u64]; omega
theorem wrapM (a : Nat) : IntKind.u64.wrap (a : Int) = ((a % 18446744073709551616 : Nat) : Int) := by rw [IntKind.wrap_u64]; omega
end Mul64
theorem bits_Mul64 (x y : Nat) (hx : x < 18446744073709551616) (hy : y < 18446744073709551616) (w : World) :
  Calls Tryz.prog 227 #[.int .u64 x, .int .u64 y] w fun e w' => e = .returned (.tuple #[.int .u64 ((x * y / 18446744073709551616 : Nat) : Int), .int .u64 ((x * y % 18446744073709551616 : Nat) : Int)]) ∧ w = w' := by
 obtain ⟨H, B, I, J⟩ := Lib.mul64_hi x y hx hy
 have K := Lib.half_mul_le (a := x / 4294967296) (b := y / 4294967296) (by omega) (by omega)
 have L := Lib.half_mul_le (a := x / 4294967296) (b := y % 4294967296) (by omega) (by omega)
 have M := Lib.half_mul_le (a := x % 4294967296) (b := y / 4294967296) (by omega) (by omega)
 have C : x / 4294967296 * (y / 4294967296) < 18446744073709551616 := by omega
 have D : x / 4294967296 * (y % 4294967296) < 18446744073709551616 := by omega
 have E : x % 4294967296 * (y / 4294967296) < 18446744073709551616 := by omega
 have F : x / 4294967296 * (y / 4294967296) + (x / 4294967296 * (y % 4294967296) + x % 4294967296 * (y % 4294967296) / 4294967296) / 4294967296 < 18446744073709551616 := by omega
 have G : x / 4294967296 * (y / 4294967296) + (x / 4294967296 * (y % 4294967296) + x % 4294967296 * (y % 4294967296) / 4294967296) / 4294967296 + ((x / 4294967296 * (y % 4294967296) + x % 4294967296 * (y % 4294967296) / 4294967296) % 4294967296 + x % 4294967296 * (y / 4294967296)) / 4294967296 < 18446744073709551616 := by omega
 go_enter Tryz.func227, Tryz.ntmps227
 go_wp2
 simp only [Mul64.maskN x hx, Mul64.maskN y hy, Mul64.divN, Mul64.mulN, Mul64.addN, Mul64.wrapN _ H, Mul64.wrapN _ D, Mul64.wrapN _ B, Mul64.maskN _ B, Mul64.wrapN _ E, Mul64.wrapN _ I, Mul64.wrapN _ C, Mul64.wrapN _ F, Mul64.wrapN _ G, Mul64.wrapM (x * y)]
 rw [J]
 go_ret2
 exact ⟨rfl, rfl⟩
theorem bits_len64 (x : Nat) (w : World) (h : x < 18446744073709551616) :
  Calls Tryz.prog 267 #[.int .u64 (x : Int)] w fun e w' => e = .returned (.int .i64 (Lib.bitLen x : Int)) ∧ w = w' :=
 (bits_Len64 x w (by omega) (by omega)).mono fun e w' h => by simpa using ⟨h.1, h.2.symm⟩
theorem bits_len (x : Nat) (w : World) (h : x < 18446744073709551616) :
  Calls Tryz.prog 250 #[.int .u64 (x : Int)] w fun e w' => e = .returned (.int .i64 (Lib.bitLen x : Int)) ∧ w = w' := by
 go_enter Tryz.func250, Tryz.ntmps250
 go_wp2_with (go_at_call 267; refine (bits_len64 x _ h).mono ?_; rintro e w' ⟨rfl, rfl⟩)
 go_ret
 exact ⟨rfl, rfl⟩
end Go.Proofs.YtdncgncijbnjpaaGreat
