/- The contracts of mul.checked, Mul, School and Split. -/
import Derived.RegionTactic
import Derived.ChangeAlike
import Derived.BigRegion
import Derived.RangeFuncBox
import Derived.Test.YtdncgncijbnjpaaGreatRClone
import Derived.Test.YtdncgncijbnjpaaGreatRRefA
import Derived.Test.YtdncgncijbnjpaaGreatRRefM
import Derived.Test.YtdncgncijbnjpaaGreatRNatE
set_option linter.unusedVariables false
set_option linter.unusedSimpArgs false
set_option maxRecDepth 100000
set_option maxHeartbeats 40000000
namespace Go.Proofs.YtdncgncijbnjpaaGreat
open Go.Lib (hid)
open Go.RowKit
variable {A B : Option Addr} {D Q R R' bs ns qs ws : List Nat} {L M P V X b c cD cR carry d g i j less' m o q r rb ro second third under v x y : Nat} {Y Z Zd : Zone} {a : Value} {w' : World}
theorem U64s.drop {w : World} {l : List Nat} (h : U64s w Z A c l) {k : Nat} (hk : k ≤ l.length) :
  U64s w Z (if c = k then A else A.map (·.add k)) (c - k) (l.drop k) := by
 have E := h.cap
 have F := h.max
 refine ⟨h.small.drop k, by rw [List.length_drop]; omega, by omega, fun hA => ?_, fun h0 => ?_⟩
 · split at hA
   · omega
   · cases A with
     | none => have := h.nul rfl; omega
     | some a => cases hA
 · have G : k < l.length := by simp at h0; omega
   obtain ⟨b, o, rfl, B, C, D⟩ := h.row (by simp; omega)
   rw [if_neg (by omega)]
   refine ⟨b, o + k, by simp [Addr.add_lit], B, fun hs j => by rw [Nat.add_assoc]; exact C hs _, fun j u hu => ?_⟩
   rw [Nat.add_assoc]
   exact D _ u (by rw [← hu, List.map_drop, List.getElem?_drop])
theorem own_form {w : World} {base : Nat} {e : TypeId} {n : Nat} {xs : List Value} (h : w.ownsRow base e 1 (.slice A n c) n xs) (hn : 0 < n) : ∃ g, A = some ⟨g, 0, none⟩ ∧ base ≤ g := by
 rcases h.2 with ⟨_, h0⟩ | ⟨g, cap, cur, e1, hb, _⟩
 · omega
 · injection e1 with e1
   exact ⟨g, e1, hb⟩
def downO (n d : Nat) (l : List Nat) (k : Nat) : List Nat := (List.range k).map (fun i => d / 18446744073709551616 ^ i % 18446744073709551616) ++ l.drop k
theorem downO_length {n : Nat} {l : List Nat} {k : Nat} (hk : k ≤ l.length) : (downO n d l k).length = l.length := by simp [downO]; omega
theorem downO_at {n : Nat} {l : List Nat} {k : Nat} (hk : k ≤ j) : (downO n d l k)[j]? = l[j]? := by
 unfold downO
 rw [List.getElem?_append_right (by simp; omega), List.getElem?_drop]
 simp [show k + (j - k) = j by omega]
theorem downO_step {n : Nat} {l : List Nat} {k : Nat} (hk : k < l.length) : (downO n d l k).set k (d / 18446744073709551616 ^ k % 18446744073709551616) = downO n d l (k + 1) := by
 unfold downO
 rw [List.set_append_right _ _ (by simp)]
 simp only [List.length_map, List.length_range, Nat.sub_self]
 rw [List.drop_eq_getElem_cons hk, List.set_cons_zero, List.range_succ]
 simp
theorem val_digits (d k : Nat) : val ((List.range k).map (fun i => d / 18446744073709551616 ^ i % 18446744073709551616)) = d % 18446744073709551616 ^ k := by
 induction k with
 | zero => simp [val, Nat.mod_one]
 | succ k ih =>
   rw [List.range_succ, List.map_append, val_append, ih]
   simp only [List.map_cons, List.map_nil, val, List.length_map, List.length_range, Nat.mul_zero, Nat.add_zero]
   rw [Nat.pow_succ, Nat.mod_mul]
theorem down_limb (n q r i : Nat) (hr : r < 64) : n / 2 ^ (64 * q + r) / 18446744073709551616 ^ i % 18446744073709551616 =
  (limbs n)[q + i]?.getD 0 / 2 ^ r ||| (limbs n)[q + i + 1]?.getD 0 * 2 ^ (64 - r) % 18446744073709551616 := by
 rw [limb_get, limb_get]
 have B : n / 2 ^ (64 * q + r) / 18446744073709551616 ^ i = n / 18446744073709551616 ^ (q + i) / 2 ^ r := by
  rw [W_pow, W_pow, Nat.div_div_eq_div_mul, Nat.div_div_eq_div_mul, ← Nat.pow_add, ← Nat.pow_add]
  congr 2
  omega
 have C : n / 18446744073709551616 ^ (q + i + 1) = n / 18446744073709551616 ^ (q + i) / 18446744073709551616 := by rw [Nat.pow_succ, Nat.div_div_eq_div_mul]
 rw [B, C]
 generalize n / 18446744073709551616 ^ (q + i) = m
 have A : (18446744073709551616 : Nat) = 2 ^ r * 2 ^ (64 - r) := by rw [← Nat.pow_add, show r + (64 - r) = 64 by omega]
 have I : 0 < 2 ^ r := Nat.pow_pos (by omega)
 have D : 0 < 2 ^ (64 - r) := Nat.pow_pos (by omega)
 have E : m % 18446744073709551616 / 2 ^ r = m / 2 ^ r % 2 ^ (64 - r) := by
  rw [A, Nat.mod_mul_right_div_self]
 have F : (m / 18446744073709551616 % 18446744073709551616) * 2 ^ (64 - r) % 18446744073709551616 = 2 ^ (64 - r) * (m / 18446744073709551616 % 2 ^ r) := by
  have : (18446744073709551616 : Nat) = 2 ^ (64 - r) * 2 ^ r := by rw [A, Nat.mul_comm]
  rw [Nat.mul_comm (m / 18446744073709551616 % 18446744073709551616)]
  conv => lhs; rw [show (2 ^ (64 - r) * (m / 18446744073709551616 % 18446744073709551616) % 18446744073709551616) = 2 ^ (64 - r) * (m / 18446744073709551616 % 18446744073709551616) % (2 ^ (64 - r) * 2 ^ r) from by rw [← this]]
  rw [Nat.mul_mod_mul_left]
  congr 1
  rw [A, Nat.mod_mul_right_mod]
 rw [E, F, Nat.or_comm, ← Nat.two_pow_add_eq_or_of_lt (Nat.mod_lt _ D)]
 have G : m / 18446744073709551616 = m / 2 ^ r / 2 ^ (64 - r) := by rw [A, Nat.div_div_eq_div_mul]
 rw [G]
 generalize m / 2 ^ r = p
 have H : (18446744073709551616 : Nat) = 2 ^ (64 - r) * 2 ^ r := by rw [A, Nat.mul_comm]
 rw [H, Nat.mod_mul]
 omega
theorem down_done {n : Nat} {l' : List Nat} (hl : l' = (limbs n).drop q) : Small (downO n (n / 2 ^ (64 * q + r)) l' l'.length) ∧ val (downO n (n / 2 ^ (64 * q + r)) l' l'.length) = n / 2 ^ (64 * q + r) := by
 unfold downO
 rw [List.drop_length, List.append_nil, val_digits]
 refine ⟨fun x hx => ?_, Nat.mod_eq_of_lt ?_⟩
 · obtain ⟨i, _, rfl⟩ := List.mem_map.1 hx
   exact Nat.mod_lt _ (by omega)
 · have A := lt_pow_len n
   rw [hl, List.length_drop]
   rw [Nat.div_lt_iff_lt_mul (Nat.pow_pos (by omega))]
   refine Nat.lt_of_lt_of_le A ?_
   rw [W_pow, W_pow, ← Nat.pow_add]
   exact Nat.pow_le_pow_right (by omega) (by omega)
theorem down_good {w : World} {n : Nat} (ha : IsN w Z a n) (hl : (limbs n).length ≤ 900000000000) (hb : b ≤ 65536) :
  Calls Tryz.prog 290 #[a, .int .i64 (b : Int)] w fun e w' => ∃ v, e = .returned (.tuple #[v, .int .i64 0]) ∧ IsN w' (new w.heap.size) v (n / 2 ^ b) ∧ Below w.heap.size w w' := by
 obtain ⟨A, c, rfl, ha⟩ := ha
 obtain ⟨q, hq⟩ : ∃ q : Nat, q = b / 64 := ⟨_, rfl⟩
 obtain ⟨r, hr⟩ : ∃ r : Nat, r = b % 64 := ⟨_, rfl⟩
 have Kf : b = 64 * q + r := by omega
 have Kn : r < 64 := by omega
 have Kw : q ≤ 1024 := by omega
 have Kx : (b : Int) / 64 = (q : Int) := by omega
 have Ky : (b : Int) % 64 = (r : Int) := by omega
 have W := hid Kf
 clear hq hr Kf
 obtain ⟨L, J⟩ : ∃ L : Nat, L = (limbs n).length := ⟨_, rfl⟩
 have HL := hid J
 have Kz : L ≤ 900000000000 := by omega
 have KA : L ≤ c := by rw [J]; exact ha.cap
 have KB := ha.max
 have X := asked_good ha hb
 obtain ⟨k, hk⟩ : ∃ k : Nat, k = min q L := ⟨_, rfl⟩
 have KC : k ≤ L := by omega
 have KD : min (q : Int) (L : Int) = (k : Int) := by omega
 have F := ha.drop (k := k) (by omega)
 have Kg : (limbs n).drop k = (limbs n).drop q := by
  rcases Nat.le_total q L with h | h
  · rw [hk, Nat.min_eq_left h]
  · rw [hk, Nat.min_eq_right h, J, List.drop_length, List.drop_eq_nil_of_le (by omega)]
 obtain ⟨l', S⟩ : ∃ l', l' = (limbs n).drop k := ⟨_, rfl⟩
 rw [← S] at F
 have hN : L - k = l'.length := by rw [S, List.length_drop, J]
 have K := hid (S.trans Kg)
 rw [← J] at X ⊢
 obtain ⟨Km, HN⟩ := hid2 X hN
 have KE : l'.length ≤ 900000000000 := by omega
 clear J X hk Kg S hN ha
 by_cases hck : c = k
 · rw [if_pos hck] at F
   have Y : l'.length = 0 := by have := HN.out; omega
   have G := clone_any (n := 0) Y.symm F (by omega)
   rw [show c - k = 0 by omega] at G
   have Kh : l' = [] := List.length_eq_zero_iff.1 Y
   obtain ⟨_, E⟩ := down_done (r := r) K.out
   rw [Kh] at E G
   obtain ⟨Hv, m⟩ := hid2 E G
   clear E G Y F
   subst Kh hck
   go_enter Tryz.func290, Tryz.ntmps290
   go_wp2_with (first | (go_at_call 294; refine Km.out.mono ?_; rintro e w' ⟨rfl, rfl⟩))
   refine m.out.mono ?_
   rintro e w1 ⟨v, rfl, C, Kc⟩
   obtain ⟨A2, c2, rfl⟩ := own_shape C
   have M := isU_after (B := w.heap.size) (l := []) Small.nil rfl C (Nat.le_refl _)
   go_wp2
   refine wp_loop_rounds 1 ?_
   rw [rounds_succ]
   go_wp2_with (go_at_call 163; refine (trim_len M rfl).mono ?_; rintro e w' ⟨rfl, rfl⟩)
   go_ret2
   rw [W.out]
   exact ⟨_, rfl, isN_trimU (by simpa [downO, val] using Hv.out) M, Kc⟩
 · rw [if_neg hck] at F
   obtain ⟨N, T⟩ : ∃ N, N = L - k := ⟨_, rfl⟩
   have G := clone_any (n := N) (by rw [T]; exact HN.out) F (by omega)
   have KF : L - k = N := T.symm
   have m := hid G
   have KG : N ≤ 900000000000 := by omega
   have I := hid (show N = l'.length by rw [T]; exact HN.out)
   clear G F T
   go_enter Tryz.func290, Tryz.ntmps290
   go_wp2_with (first | (go_at_call 294; refine Km.out.mono ?_; rintro e w' ⟨rfl, rfl⟩))
   refine m.out.mono ?_
   rintro e w1 ⟨v, rfl, C, Kc⟩
   obtain ⟨A2, c2, rfl⟩ := own_shape C
   go_wp2
   go_loopw [25] (fun i wr => ∃ j : Nat, j ≤ N ∧ i = .int .i64 j ∧ wr.ownsRow w.heap.size 143 1 (.slice A2 N c2) N ((downO n (n / 2 ^ b) l' j).map fun x : Nat => Value.int .u64 (x : Int)) ∧ Below w.heap.size w wr) (fun i _ => N - (intOf i).toNat)
   case atStart => exact ⟨0, Nat.zero_le _, rfl, by simpa [downO] using C, Kc⟩
   case round =>
    obtain ⟨j, hj, rfl, C, U⟩ := hrel
    by_cases hlt : j < N
    · obtain ⟨g, rfl, Kd⟩ := own_form C (by omega)
      have R : j < l'.length := by rw [← I.out]; exact hlt
      have Ki := W.out
      have o := down_limb n q r j Kn
      have g0 : (limbs n)[q + j]? = l'[j]? := by rw [K.out, List.getElem?_drop]
      have g1 : (limbs n)[q + j]?.getD 0 = l'[j] := by rw [g0]; simp [R]
      have g2 : (limbs n)[q + j + 1]?.getD 0 = l'[j + 1]?.getD 0 := by rw [K.out, List.getElem?_drop, Nat.add_assoc]
      rw [g1, g2, ← Ki] at o
      have O := downO_at (n := n) (d := n / 2 ^ b) (l := l') (k := j) (j := j) (Nat.le_refl _)
      have H := C.cellAt j (by omega)
      rw [List.getElem?_map, O, List.getElem?_eq_getElem R] at H
      have Ko : wr.cell? ⟨g, j, none⟩ = some (.int .u64 (l'[j] : Int)) := H
      have Kp := C.frozenAt j
      have D := downO_step (n := n) (d := n / 2 ^ b) R
      rw [o] at D
      have Kq : l'[j] < 18446744073709551616 := by have h1 : Small l' := by (rw [K.out]; exact (small_limbs n).drop q)
                                                   exact h1.get R
      clear H O g0 g1 g2 o Ki
      generalize l'[j] = x at *
      obtain ⟨y, Q⟩ : ∃ y, y = x / 2 ^ r := ⟨_, rfl⟩
      have Kr : y < 18446744073709551616 := by rw [Q]; exact Nat.lt_of_le_of_lt (Nat.div_le_self _ _) Kq
      have KH : (x : Int) / 2 ^ r = (y : Int) := by rw [Q]; simp
      rw [← Q] at D
      have s := C.stored j (.int .u64 (y : Int))
      by_cases hn1 : j + 1 < N
      · have Kj : j + 1 < l'.length := by rw [← I.out]; exact hn1
        have O := downO_at (n := n) (d := n / 2 ^ b) (l := l') (k := j) (j := j + 1) (by omega)
        have H := C.cellAt (j + 1) (by omega)
        rw [List.getElem?_map, O, List.getElem?_eq_getElem Kj] at H
        have Kk : wr.cell? ⟨g, j + 1, none⟩ = some (.int .u64 (l'[j + 1] : Int)) := H
        have P : l'[j + 1]?.getD 0 = l'[j + 1] := by simp [Kj]
        rw [P] at D
        clear H O P
        generalize l'[j + 1] = x2 at *
        obtain ⟨t, ht⟩ : ∃ t, t = 64 - r := ⟨_, rfl⟩
        have KI : (64 : Int) - (r : Int) = (t : Int) := by omega
        rw [← ht] at D
        obtain ⟨z, V⟩ : ∃ z, z = x2 * 2 ^ t % 18446744073709551616 := ⟨_, rfl⟩
        have Ks : z < 18446744073709551616 := by rw [V]; exact Nat.mod_lt _ (by omega)
        have KJ : IntKind.u64.wrap ((x2 : Int) * 2 ^ t) = (z : Int) := by rw [V, IntKind.wrap_u64]; simp
        rw [← V] at D
        have KK := bits_or_u64_nat y z Kr Ks
        have u := hid D
        have KL : t ≤ 64 := by omega
        have KM : 0 < t := by omega
        clear D V ht Q
        go_wp2
        have Ka := s.1
        have Kt : Below w.heap.size w (wr.setCell ⟨g, j, none⟩ (.int .u64 (y : Int))) := U.setCell (p := ⟨g, j, none⟩) Kd _
        have Kl : (downO n (n / 2 ^ b) l' j).length = N := by simpa using C.1
        have c1 : (wr.setCell ⟨g, j, none⟩ (.int .u64 (y : Int))).cell? ⟨g, j, none⟩ = some (.int .u64 (y : Int)) := by
         rw [Ka.cellAt j (by omega)]
         simp [Kl, hlt]
        have KN : (wr.setCell ⟨g, j, none⟩ (.int .u64 (y : Int))).cell? ⟨g, j + 1, none⟩ = some (.int .u64 (x2 : Int)) := by
         rw [World.cell?_setCell_other _ _ _ _ (by simp)]
         exact Kk
        have f1 := Ka.frozenAt j
        clear Ko Kk Kp C s U Kl
        generalize wr.setCell ⟨g, j, none⟩ (.int .u64 (y : Int)) = W2 at *
        go_region
        all_goals
         go_wp2
         have o2 := Ka.stored j (.int .u64 ((y ||| z : Nat) : Int))
         go_roundw
         case rel =>
          refine ⟨j + 1, by omega, by go_num, ?_, (Kt.setCell (p := ⟨g, j, none⟩) Kd _).drew⟩
          rw [← u.out, List.map_set]
          have o3 := o2.1
          rw [List.set_set] at o3
          exact o3.drew
         case measure => simp [intOf]; omega
      · have P : l'[j + 1]?.getD 0 = 0 := by rw [List.getElem?_eq_none (by rw [← I.out]; omega)]; rfl
        rw [P] at D
        simp only [Nat.zero_mul, Nat.zero_mod, Nat.or_zero] at D
        have u := hid D
        clear D Q P
        go_wp2
        go_roundw
        case rel =>
         refine ⟨j + 1, by omega, by go_num, ?_, U.setCell (p := ⟨g, j, none⟩) Kd _⟩
         rw [← u.out, List.map_set]
         exact s.1
        case measure => simp [intOf]; omega
    · obtain rfl : j = N := by omega
      obtain ⟨Ke, E⟩ := down_done (n := n) (q := q) (r := r) K.out
      rw [← I.out] at Ke E
      rw [← W.out] at Ke E
      have Kb : j = (downO n (n / 2 ^ b) l' j).length := by rw [downO_length (by rw [← I.out]; exact Nat.le_refl _), ← I.out]
      have M := isU_after (B := w.heap.size) Ke Kb C (Nat.le_refl _)
      obtain ⟨Hv, Kv⟩ := hid2 E Kb
      clear E Kb
      go_wp2_with (go_at_call 163; refine (trim_len M Kv.out).mono ?_; rintro e w' ⟨rfl, rfl⟩)
      go_ret2
      exact ⟨_, rfl, isN_trimU Hv.out M, U⟩
theorem halfL (n b : Nat) : n / 2 ^ b = 2 * (n / 2 ^ (b + 1)) + n / 2 ^ b % 2 := by
 rw [Nat.pow_succ, ← Nat.div_div_eq_div_mul]
 omega
theorem word_of {l : List Nat} (hs : Small l) (hq : q < l.length) : l[q] = val l / 18446744073709551616 ^ q % 18446744073709551616 := by
 have h := val_take_drop l q
 have B : (l.take q).length = q := by rw [List.length_take]; omega
 have A := val_lt (l := l.take q) (hs.take q)
 rw [B] at h A
 have C : 0 < 18446744073709551616 ^ q := Nat.pow_pos (by omega)
 rw [← h, Nat.add_mul_div_left _ _ C, Nat.div_eq_of_lt A, Nat.zero_add, List.drop_eq_getElem_cons hq]
 simp only [val]
 rw [Nat.add_mul_mod_self_left, Nat.mod_eq_of_lt (hs.get hq)]
structure LongI (m n L k : Nat) (qs : List Nat) (r : Nat) : Prop where
 len : qs.length = L
 small : Small qs
 rest : r = m / 2 ^ k % n
 eq : val qs = (m / 2 ^ k / n) * 2 ^ k
theorem LongI.low {n k : Nat} (h : LongI m n L (k + 1) qs r) (hn : 0 < n) (hlt : r * 2 + m / 2 ^ k % 2 < n) : LongI m n L k qs (r * 2 + m / 2 ^ k % 2) := by
 have C := halfL m k
 have A := Nat.div_add_mod (m / 2 ^ (k + 1)) n
 rw [← h.rest] at A
 have e := h.eq
 have B : m / 2 ^ k = n * (2 * (m / 2 ^ (k + 1) / n)) + (r * 2 + m / 2 ^ k % 2) := by
  conv => lhs; rw [C, ← A]
  generalize m / 2 ^ (k + 1) / n = c
  grind
 refine ⟨h.len, h.small, ?_, ?_⟩
 · conv => rhs; rw [B]
   rw [Nat.mul_add_mod, Nat.mod_eq_of_lt hlt]
 · have D : m / 2 ^ k / n = 2 * (m / 2 ^ (k + 1) / n) := by
    conv => lhs; rw [B]
    rw [Nat.mul_add_div hn, Nat.div_eq_of_lt hlt, Nat.add_zero]
   rw [e, D, Nat.pow_succ]
   grind
theorem LongI.bound {n k : Nat} (h : LongI m n L (k + 1) qs r) (hq : k / 64 < qs.length) :
  qs[k / 64] ||| 2 ^ (k % 64) = qs[k / 64] + 2 ^ (k % 64) ∧ qs[k / 64] + 2 ^ (k % 64) < 18446744073709551616 := by
 have A := word_of h.small hq
 rw [h.eq] at A
 obtain ⟨c, H⟩ : ∃ c, c = m / 2 ^ (k + 1) / n := ⟨_, rfl⟩
 obtain ⟨e, I⟩ : ∃ e, e = k % 64 := ⟨_, rfl⟩
 have J : e < 64 := by omega
 have E : k + 1 = (e + 1) + 64 * (k / 64) := by omega
 have B : (18446744073709551616 : Nat) = 2 ^ (e + 1) * 2 ^ (63 - e) := by rw [← Nat.pow_add, show e + 1 + (63 - e) = 64 by omega]
 rw [← H, E, Nat.pow_add, ← Nat.mul_assoc, W_pow, Nat.mul_div_cancel _ (Nat.pow_pos (by omega))] at A
 have C : c * 2 ^ (e + 1) % 18446744073709551616 = 2 ^ (e + 1) * (c % 2 ^ (63 - e)) := by rw [B, Nat.mul_comm c, Nat.mul_mod_mul_left]
 have F : c % 2 ^ (63 - e) < 2 ^ (63 - e) := Nat.mod_lt _ (Nat.pow_pos (by omega))
 have D := or_low (2 ^ e) c (e + 1) (Nat.pow_lt_pow_right (by omega) (by omega)) (by omega)
 rw [← A] at D C
 rw [← I]
 refine ⟨by rw [Nat.or_comm, D, Nat.add_comm], ?_⟩
 have G : 2 ^ (e + 1) * (c % 2 ^ (63 - e) + 1) ≤ 2 ^ (e + 1) * 2 ^ (63 - e) := Nat.mul_le_mul_left _ F
 rw [← B, Nat.mul_add, ← C, Nat.mul_one, Nat.pow_succ] at G
 have K : 0 < 2 ^ e := Nat.pow_pos (by omega)
 omega
theorem LongI.high {n k : Nat} (h : LongI m n L (k + 1) qs r) (hn : 0 < n) (hge : n ≤ r * 2 + m / 2 ^ k % 2) (hq : k / 64 < qs.length) :
  LongI m n L k (qs.set (k / 64) (qs[k / 64] + 2 ^ (k % 64))) (r * 2 + m / 2 ^ k % 2 - n) := by
 have E := halfL m k
 have A := Nat.div_add_mod (m / 2 ^ (k + 1)) n
 have K : r < n := by rw [h.rest]; exact Nat.mod_lt _ hn
 rw [← h.rest] at A
 have e := h.eq
 obtain ⟨d, I⟩ : ∃ d, d = r * 2 + m / 2 ^ k % 2 - n := ⟨_, rfl⟩
 have B : d < n := by omega
 have M : r * 2 + m / 2 ^ k % 2 = d + n := by omega
 have C : m / 2 ^ k = n * (2 * (m / 2 ^ (k + 1) / n) + 1) + d := by
  conv => lhs; rw [E, ← A]
  generalize m / 2 ^ (k + 1) / n = c
  generalize m / 2 ^ k % 2 = b at *
  grind
 have D := val_set qs (k / 64) (qs[k / 64] + 2 ^ (k % 64)) hq
 obtain ⟨_, J⟩ := h.bound hq
 rw [← I]
 refine ⟨by rw [List.length_set, h.len], small_set h.small _ _ J, ?_, ?_⟩
 · conv => rhs; rw [C]
   rw [Nat.mul_add_mod, Nat.mod_eq_of_lt B]
 · have F : m / 2 ^ k / n = 2 * (m / 2 ^ (k + 1) / n) + 1 := by
    conv => lhs; rw [C]
    rw [Nat.mul_add_div hn, Nat.div_eq_of_lt B, Nat.add_zero]
   have G : 2 ^ k = 18446744073709551616 ^ (k / 64) * 2 ^ (k % 64) := by rw [W_pow, ← Nat.pow_add, Nat.div_add_mod]
   rw [Nat.mul_add, ← G, e] at D
   rw [F]
   have H : (m / 2 ^ (k + 1) / n) * 2 ^ (k + 1) = 2 * (m / 2 ^ (k + 1) / n) * 2 ^ k := by rw [Nat.pow_succ]; grind
   rw [H] at D
   rw [Nat.add_mul, Nat.one_mul]
   omega
theorem sub_limb (hx : x < 18446744073709551616) (hy : y < 18446744073709551616) (hc : c ≤ 1) :
  ∃ v c', v = (x + 18446744073709551616 - y - c) % 18446744073709551616 ∧ c' = (if x < y + c then 1 else 0) ∧ v < 18446744073709551616 ∧ c' ≤ 1 ∧ v + y + c = x + 18446744073709551616 * c' := by
 refine ⟨_, _, rfl, rfl, Nat.mod_lt _ (by omega), by split <;> omega, ?_⟩
 split <;> omega
structure TakeI (R0 D : List Nat) (q a i : Nat) (R : List Nat) (carry less : Nat) : Prop where
 len : R.length = R0.length
 small : Small R
 word : carry < 18446744073709551616
 one : less ≤ 1
 same : ∀ j (h : j < R.length) (h' : j < R0.length), a + i ≤ j → R[j] = R0[j]
 eq : val R + q * val (D.take i) * 18446744073709551616 ^ a = val R0 + (carry + less) * 18446744073709551616 ^ (a + i)
theorem TakeI.start {R0 : List Nat} {a : Nat} (hs : Small R0) : TakeI R0 D q a 0 R0 0 0 :=
 ⟨rfl, hs, by omega, by omega, fun _ _ _ _ => rfl, by simp [val]⟩
theorem val_take_succ {l : List Nat} (h : i < l.length) : val (l.take (i + 1)) = val (l.take i) + 18446744073709551616 ^ i * l[i] := by
 rw [List.take_succ_eq_append_getElem h, val_append, List.length_take, Nat.min_eq_left (by omega)]
 simp [val]
theorem TakeI.step {R0 : List Nat} {a less : Nat} (h : TakeI R0 D q a i R carry less) (hi : i < D.length) (hp : a + i < R.length) (hv : v < 18446744073709551616) (hl' : less' ≤ 1)
  (hc : (q * D[i] + carry) / 18446744073709551616 < 18446744073709551616)
  (he : v + (q * D[i] + carry) % 18446744073709551616 + less = R[a + i] + 18446744073709551616 * less') :
  TakeI R0 D q a (i + 1) (R.set (a + i) v) ((q * D[i] + carry) / 18446744073709551616) less' := by
 refine ⟨by simpa using h.len, small_set h.small _ _ hv, hc, hl', fun j hj hj' hle => ?_, ?_⟩
 · rw [List.getElem_set_ne (by omega)]
   exact h.same j (by simpa using hj) hj' (by omega)
 · have e := h.eq
   have B := val_set R (a + i) v hp
   rw [val_take_succ hi]
   generalize D[i] = y at *
   generalize R[a + i] = x at *
   have A := Nat.div_add_mod (q * y + carry) 18446744073709551616
   generalize (q * y + carry) / 18446744073709551616 = c1 at *
   generalize (q * y + carry) % 18446744073709551616 = lo at *
   rw [show a + (i + 1) = a + i + 1 by omega, Nat.pow_succ]
   rw [Nat.pow_add] at *
   generalize val (R.set (a + i) v) = V1 at *
   generalize val (D.take i) = T at *
   generalize val R = V at *
   generalize val R0 = V0 at *
   generalize 18446744073709551616 ^ a = pa at *
   generalize 18446744073709551616 ^ i = pi at *
   have C : (v + lo + less) * (pa * pi) = (x + 18446744073709551616 * less') * (pa * pi) := by rw [he]
   have E : (18446744073709551616 * c1 + lo) * (pa * pi) = (q * y + carry) * (pa * pi) := by rw [A]
   grind
theorem TakeI.last {R0 : List Nat} {a less : Nat} (h : TakeI R0 D q a D.length R carry less) (hp : a + D.length < R.length) (hv : v < 18446744073709551616) (hl' : less' ≤ 1)
  (he : v + carry + less = R[a + D.length] + 18446744073709551616 * less') :
  (R.set (a + D.length) v).length = R0.length ∧ Small (R.set (a + D.length) v) ∧ (∀ j (h : j < (R.set (a + D.length) v).length) (h' : j < R0.length), a + D.length < j → (R.set (a + D.length) v)[j] = R0[j]) ∧
   val (R.set (a + D.length) v) + q * val D * 18446744073709551616 ^ a = val R0 + less' * 18446744073709551616 ^ (a + D.length + 1) := by
 refine ⟨by simpa using h.len, small_set h.small _ _ hv, fun j hj hj' hle => ?_, ?_⟩
 · rw [List.getElem_set_ne (by omega)]
   exact h.same j (by simpa using hj) hj' (by omega)
 · have e := h.eq
   rw [List.take_length] at e
   have A := val_set R (a + D.length) v hp
   rw [Nat.pow_succ]
   generalize R[a + D.length] = x at *
   generalize val (R.set (a + D.length) v) = V1 at *
   generalize val R = V at *
   generalize val R0 = V0 at *
   generalize val D = T at *
   generalize 18446744073709551616 ^ (a + D.length) = p at *
   generalize 18446744073709551616 ^ a = pa at *
   have B : (v + carry + less) * p = (x + 18446744073709551616 * less') * p := by rw [he]
   grind
structure BackI (R0 D : List Nat) (a i : Nat) (R : List Nat) (carry : Nat) : Prop where
 len : R.length = R0.length
 small : Small R
 one : carry ≤ 1
 same : ∀ j (h : j < R.length) (h' : j < R0.length), a + i ≤ j → R[j] = R0[j]
 eq : val R + carry * 18446744073709551616 ^ (a + i) = val R0 + val (D.take i) * 18446744073709551616 ^ a
theorem BackI.start {R0 : List Nat} {a : Nat} (hs : Small R0) : BackI R0 D a 0 R0 0 :=
 ⟨rfl, hs, by omega, fun _ _ _ _ => rfl, by simp [val]⟩
theorem BackI.step {R0 : List Nat} {a : Nat} (h : BackI R0 D a i R carry) (hi : i < D.length) (hp : a + i < R.length) (hy : D[i] < 18446744073709551616) :
  BackI R0 D a (i + 1) (R.set (a + i) ((R[a + i] + D[i] + carry) % 18446744073709551616)) ((R[a + i] + D[i] + carry) / 18446744073709551616) := by
 have B := h.small.get hp
 have C := h.one
 refine ⟨by simpa using h.len, small_set h.small _ _ (Nat.mod_lt _ (by omega)), by omega, fun j hj hj' hle => ?_, ?_⟩
 · rw [List.getElem_set_ne (by omega)]
   exact h.same j (by simpa using hj) hj' (by omega)
 · have e := h.eq
   have E := val_set R (a + i) ((R[a + i] + D[i] + carry) % 18446744073709551616) hp
   rw [val_take_succ hi]
   generalize D[i] = y at *
   generalize R[a + i] = x at *
   have A := Nat.div_add_mod (x + y + carry) 18446744073709551616
   generalize (x + y + carry) / 18446744073709551616 = c1 at *
   generalize (x + y + carry) % 18446744073709551616 = v at *
   rw [show a + (i + 1) = a + i + 1 by omega, Nat.pow_succ]
   rw [Nat.pow_add] at *
   generalize val (R.set (a + i) v) = V1 at *
   generalize val (D.take i) = T at *
   generalize val R = V at *
   generalize val R0 = V0 at *
   generalize 18446744073709551616 ^ a = pa at *
   generalize 18446744073709551616 ^ i = pi at *
   have F : (18446744073709551616 * c1 + v) * (pa * pi) = (x + y + carry) * (pa * pi) := by rw [A]
   grind
theorem BackI.last {R0 : List Nat} {a : Nat} (h : BackI R0 D a D.length R carry) (hp : a + D.length < R.length) :
  (R.set (a + D.length) ((R[a + D.length] + carry) % 18446744073709551616)).length = R0.length ∧ Small (R.set (a + D.length) ((R[a + D.length] + carry) % 18446744073709551616)) ∧
   (∀ j (h : j < (R.set (a + D.length) ((R[a + D.length] + carry) % 18446744073709551616)).length) (h' : j < R0.length), a + D.length < j → (R.set (a + D.length) ((R[a + D.length] + carry) % 18446744073709551616))[j] = R0[j]) ∧
   (R[a + D.length] + carry) / 18446744073709551616 ≤ 1 ∧
   val (R.set (a + D.length) ((R[a + D.length] + carry) % 18446744073709551616)) + (R[a + D.length] + carry) / 18446744073709551616 * 18446744073709551616 ^ (a + D.length + 1) = val R0 + val D * 18446744073709551616 ^ a := by
 have B := h.small.get hp
 have C := h.one
 refine ⟨by simpa using h.len, small_set h.small _ _ (Nat.mod_lt _ (by omega)), fun j hj hj' hle => ?_, by omega, ?_⟩
 · rw [List.getElem_set_ne (by omega)]
   exact h.same j (by simpa using hj) hj' (by omega)
 · have e := h.eq
   rw [List.take_length] at e
   have E := val_set R (a + D.length) ((R[a + D.length] + carry) % 18446744073709551616) hp
   rw [Nat.pow_succ]
   generalize R[a + D.length] = x at *
   have A := Nat.div_add_mod (x + carry) 18446744073709551616
   generalize (x + carry) / 18446744073709551616 = c1 at *
   generalize (x + carry) % 18446744073709551616 = v at *
   generalize val (R.set (a + D.length) v) = V1 at *
   generalize val R = V at *
   generalize val R0 = V0 at *
   generalize val D = T at *
   generalize 18446744073709551616 ^ (a + D.length) = p at *
   generalize 18446744073709551616 ^ a = pa at *
   have F : (18446744073709551616 * c1 + v) * p = (x + carry) * p := by rw [A]
   grind
theorem val_lt_of_zero {l : List Nat} (hs : Small l) {k : Nat} (hz : ∀ j (h : j < l.length), k ≤ j → l[j] = 0) : val l < 18446744073709551616 ^ k := by
 have h := val_take_drop l k
 have A : val (l.drop k) = 0 := by
  have : l.drop k = List.replicate (l.drop k).length 0 := by
   refine List.eq_replicate_iff.2 ⟨rfl, fun b hb => ?_⟩
   obtain ⟨j, B, rfl⟩ := List.getElem_of_mem hb
   rw [List.getElem_drop]
   exact hz _ _ (by omega)
  rw [this, val_replicate0]
 rw [A, Nat.mul_zero, Nat.add_zero] at h
 rw [← h]
 refine Nat.lt_of_lt_of_le (val_lt (hs.take k)) (Nat.pow_le_pow_right (by omega) (by rw [List.length_take]; omega))
theorem zero_of_val_lt {l : List Nat} (hs : Small l) {k : Nat} (hv : val l < 18446744073709551616 ^ k) : ∀ j (h : j < l.length), k ≤ j → l[j] = 0 := by
 intro j hj hk
 rw [word_of hs hj, Nat.div_eq_of_lt (Nat.lt_of_lt_of_le hv (Nat.pow_le_pow_right (by omega) hk))]
structure GiveI (X P top : Nat) (qn V : Nat) (much : Bool) : Prop where
 lt : V < top
 yes : much = true → X / P < qn ∧ V + qn * P = X + top
 no : much = false → qn = X / P ∧ V = X % P
theorem GiveI.taken {top less : Nat} (hP : 0 < P) (hq : X / P ≤ q) (hV : V < top) (hl : less ≤ 1) (he : V + q * P = X + less * top) : GiveI X P top q V (decide (0 < less)) := by
 have A := Nat.div_add_mod X P
 refine ⟨hV, fun hm => ?_, fun hm => ?_⟩
 · have : 0 < less := of_decide_eq_true hm
   obtain rfl : less = 1 := by omega
   rw [Nat.one_mul] at he
   refine ⟨?_, he⟩
   rw [Nat.div_lt_iff_lt_mul hP]
   omega
 · have : ¬ 0 < less := of_decide_eq_false hm
   obtain rfl : less = 0 := by omega
   rw [Nat.zero_mul, Nat.add_zero] at he
   have B : q ≤ X / P := by
    rw [Nat.le_div_iff_mul_le hP]
    omega
   obtain rfl : q = X / P := by omega
   refine ⟨rfl, ?_⟩
   rw [Nat.mul_comm] at he
   omega
theorem GiveI.back {top qn V' : Nat} (hP : 0 < P) (h : GiveI X P top qn V true) (hV : V' < top) (hc : c ≤ 1) (he : V' + c * top = V + P) : 1 ≤ qn ∧ GiveI X P top (qn - 1) V' (!decide (0 < c)) := by
 obtain ⟨C, D⟩ := h.yes rfl
 have A : 1 ≤ qn := Nat.lt_of_le_of_lt (Nat.zero_le _) C
 obtain ⟨m, rfl⟩ : ∃ m, qn = m + 1 := ⟨qn - 1, by omega⟩
 rw [Nat.add_mul, Nat.one_mul] at D
 refine ⟨A, hV, fun hm => ?_, fun hm => ?_⟩
 · have : ¬ 0 < c := by simpa using hm
   obtain rfl : c = 0 := by omega
   rw [Nat.zero_mul] at he
   refine ⟨?_, by show V' + m * P = X + top; omega⟩
   show X / P < m
   rw [Nat.div_lt_iff_lt_mul hP]
   omega
 · have : 0 < c := by simpa using hm
   obtain rfl : c = 1 := by omega
   rw [Nat.one_mul] at he
   have B : V' + m * P = X := by omega
   have E : m ≤ X / P := by rw [Nat.le_div_iff_mul_le hP]; omega
   obtain rfl : m = X / P := by omega
   refine ⟨rfl, ?_⟩
   have F := Nat.div_add_mod X P
   rw [Nat.mul_comm] at B
   omega
structure KnuthI (M D L n k : Nat) (R Q : List Nat) : Prop where
 lenR : R.length = L + 1
 lenQ : Q.length = L - n + 1
 smallR : Small R
 smallQ : Small Q
 low : ∀ j (h : j < Q.length), j < k → Q[j] = 0
 lt : val R < D * 18446744073709551616 ^ k
 eq : val R + val Q * D = M
theorem KnuthI.start {D n : Nat} (hR : R.length = L + 1) (hs : Small R) (hM : val R = M) (hlt : M < D * 18446744073709551616 ^ (L - n + 1)) :
  KnuthI M D L n (L - n + 1) R (List.replicate (L - n + 1) 0) :=
 ⟨hR, by simp, hs, Small.replicate0 _, fun j h _ => by simp, by rw [hM]; exact hlt, by rw [hM, val_replicate0]; simp⟩
theorem digit_lt {D k : Nat} (hD : 0 < D) (h : X < D * 18446744073709551616 ^ (k + 1)) : X / (D * 18446744073709551616 ^ k) < 18446744073709551616 := by
 rw [Nat.div_lt_iff_lt_mul (Nat.mul_pos hD (Nat.pow_pos (by omega)))]
 rw [Nat.pow_succ] at h
 generalize 18446744073709551616 ^ k = p at *
 grind
theorem KnuthI.step {D n k : Nat} (h : KnuthI M D L n (k + 1) R Q) (hD : 0 < D) (hk : k < Q.length) (hR' : R'.length = L + 1) (hs : Small R') (hv : val R' = val R % (D * 18446744073709551616 ^ k)) :
  KnuthI M D L n k R' (Q.set k (val R / (D * 18446744073709551616 ^ k))) := by
 have A : 0 < D * 18446744073709551616 ^ k := Nat.mul_pos hD (Nat.pow_pos (by omega))
 refine ⟨hR', by simpa using h.lenQ, hs, small_set h.smallQ _ _ (digit_lt hD h.lt), fun j hj hjk => ?_, by rw [hv]; exact Nat.mod_lt _ A, ?_⟩
 · rw [List.getElem_set_ne (by omega)]
   exact h.low j (by simpa using hj) (by omega)
 · have e := h.eq
   have B := h.low k hk (by omega)
   have hs := val_set Q k (val R / (D * 18446744073709551616 ^ k)) hk
   rw [B, Nat.mul_zero, Nat.add_zero] at hs
   have C := Nat.div_add_mod (val R) (D * 18446744073709551616 ^ k)
   rw [hv, hs]
   rw [← C] at e
   generalize val R / (D * 18446744073709551616 ^ k) = q at *
   generalize val R % (D * 18446744073709551616 ^ k) = r at *
   generalize 18446744073709551616 ^ k = p at *
   grind
theorem KnuthI.done {D n : Nat} (h : KnuthI M D L n 0 R Q) : val Q = M / D ∧ val R = M % D := by
 have e := h.eq
 have A := h.lt
 rw [Nat.pow_zero, Nat.mul_one] at A
 have B : 0 < D := by omega
 rw [← e]
 exact ⟨by rw [Nat.add_mul_div_right _ _ B, Nat.div_eq_of_lt A, Nat.zero_add], by rw [Nat.add_mul_mod_self_right, Nat.mod_eq_of_lt A]⟩
theorem scaled (x y s : Nat) (hs : 0 < s) : x * s / (y * s) = x / y ∧ x * s % (y * s) = x % y * s :=
 ⟨Nat.mul_div_mul_right _ _ hs, Nat.mul_mod_mul_right _ _ _⟩
theorem val_take_of_zero {l : List Nat} {k : Nat} (hz : ∀ j (h : j < l.length), k ≤ j → l[j] = 0) : val (l.take k) = val l := by
 have h := val_take_drop l k
 have A : val (l.drop k) = 0 := by
  have : l.drop k = List.replicate (l.drop k).length 0 := by
   refine List.eq_replicate_iff.2 ⟨rfl, fun b hb => ?_⟩
   obtain ⟨j, B, rfl⟩ := List.getElem_of_mem hb
   rw [List.getElem_drop]
   exact hz _ _ (by omega)
  rw [this, val_replicate0]
 rwa [A, Nat.mul_zero, Nat.add_zero] at h
theorem val_top_two {l : List Nat} (h : l.length = m + 2) : val l = val (l.take m) + 18446744073709551616 ^ m * (l[m] + 18446744073709551616 * l[m + 1]) := by
 have B := val_take_succ (l := l) (i := m) (by omega)
 have A := val_take_succ (l := l) (i := m + 1) (by omega)
 rw [show m + 1 + 1 = l.length by omega, List.take_length, B, Nat.pow_succ] at A
 rw [A]
 generalize 18446744073709551616 ^ m = p at *
 grind
theorem digit_top {a : Nat} (hsR : Small R) (hsD : Small D) (hD : D.length = m + 2) (hp : a + (m + 2) < R.length) (hz : ∀ j (h : j < R.length), a + (m + 2) < j → R[j] = 0) :
  val R / (val D * 18446744073709551616 ^ a) * (D[m + 1] * 18446744073709551616 + D[m]) ≤ (R[a + (m + 2)] * 18446744073709551616 + R[a + (m + 1)]) * 18446744073709551616 + R[a + m] := by
 have E : val R = val (R.take (a + m)) + 18446744073709551616 ^ (a + m) * (R[a + m] + 18446744073709551616 * (R[a + (m + 1)] + 18446744073709551616 * R[a + (m + 2)])) := by
  have C := val_take_succ (l := R) (i := a + m) (by omega)
  have A := val_take_succ (l := R) (i := a + (m + 1)) (by omega)
  have B := val_take_succ (l := R) (i := a + (m + 2)) hp
  rw [val_take_of_zero (l := R) (k := a + (m + 2) + 1) (fun j hj hk => hz j hj (by omega))] at B
  have F : val (R.take (a + (m + 2))) = val (R.take (a + (m + 1) + 1)) := rfl
  have G : val (R.take (a + (m + 1))) = val (R.take (a + m + 1)) := rfl
  have H : 18446744073709551616 ^ (a + (m + 2)) = 18446744073709551616 ^ (a + m) * 18446744073709551616 * 18446744073709551616 := rfl
  have I : 18446744073709551616 ^ (a + (m + 1)) = 18446744073709551616 ^ (a + m) * 18446744073709551616 := rfl
  rw [F, A, G, C, H, I] at B
  rw [B]
  generalize 18446744073709551616 ^ (a + m) = p at *
  grind
 have J := val_lt (hsR.take (a + m))
 rw [List.length_take, Nat.min_eq_left (by omega)] at J
 have K := val_top_two hD
 have L := Nat.div_mul_le_self (val R) (val D * 18446744073709551616 ^ a)
 generalize val R / (val D * 18446744073709551616 ^ a) = d at *
 generalize val (R.take (a + m)) = r0 at *
 generalize val (D.take m) = d0 at *
 generalize D[m + 1] = high at *
 generalize D[m] = under at *
 generalize R[a + (m + 2)] = first at *
 generalize R[a + (m + 1)] = second at *
 generalize R[a + m] = third at *
 rw [K, E] at L
 have M : 0 < 18446744073709551616 ^ (a + m) := Nat.pow_pos (by omega)
 have C : d * (high * 18446744073709551616 + under) * 18446744073709551616 ^ (a + m) ≤ d * ((d0 + 18446744073709551616 ^ m * (under + 18446744073709551616 * high)) * 18446744073709551616 ^ a) := by
  rw [Nat.pow_add]
  generalize 18446744073709551616 ^ a = pa at *
  generalize 18446744073709551616 ^ m = pm at *
  have : d * ((d0 + pm * (under + 18446744073709551616 * high)) * pa) = d * (high * 18446744073709551616 + under) * (pa * pm) + d * d0 * pa := by grind
  omega
 have A : d * (high * 18446744073709551616 + under) * 18446744073709551616 ^ (a + m) < ((first * 18446744073709551616 + second) * 18446744073709551616 + third + 1) * 18446744073709551616 ^ (a + m) := by
  generalize 18446744073709551616 ^ (a + m) = p at *
  have e : ((first * 18446744073709551616 + second) * 18446744073709551616 + third + 1) * p = p * (third + 18446744073709551616 * (second + 18446744073709551616 * first)) + p := by grind
  omega
 have := Nat.lt_of_mul_lt_mul_right A
 omega
structure GuessI (d first second high under third q r : Nat) : Prop where
 word : q < 18446744073709551616
 rest : r < 18446744073709551616
 eq : q * high + r = first * 18446744073709551616 + second
 ge : d ≤ q
theorem GuessI.start {first high : Nat} (hlt : first < high) (hs : second < 18446744073709551616) (hh : high < 18446744073709551616) (ht : third < 18446744073709551616)
  (hd : d * (high * 18446744073709551616 + under) ≤ (first * 18446744073709551616 + second) * 18446744073709551616 + third) :
  GuessI d first second high under third ((first * 18446744073709551616 + second) / high) ((first * 18446744073709551616 + second) % high) := by
 have A : 0 < high := by omega
 refine ⟨?_, by have := Nat.mod_lt (first * 18446744073709551616 + second) A; omega, ?_, ?_⟩
 · rw [Nat.div_lt_iff_lt_mul A]
   have := Nat.mul_le_mul_right 18446744073709551616 hlt
   rw [Nat.succ_mul] at this
   rw [Nat.mul_comm 18446744073709551616]
   omega
 · rw [Nat.mul_comm]
   exact Nat.div_add_mod _ _
 · rw [Nat.le_div_iff_mul_le A]
   have e : d * (high * 18446744073709551616 + under) = d * high * 18446744073709551616 + d * under := by grind
   rw [e] at hd
   generalize d * high = z at *
   generalize d * under = u at *
   omega
theorem GuessI.less {first high : Nat} (h : GuessI d first second high under third q r)
  (hd : d * (high * 18446744073709551616 + under) ≤ (first * 18446744073709551616 + second) * 18446744073709551616 + third) (hgt : r * 18446744073709551616 + third < q * under) : 1 ≤ q ∧ d ≤ q - 1 := by
 have A : 1 ≤ q := by
  rcases Nat.eq_zero_or_pos q with h0 | h0
  · subst h0; omega
  · exact h0
 refine ⟨A, ?_⟩
 have C : d < q := by
  refine Decidable.byContradiction fun hn => ?_
  have B : q ≤ d := by omega
  have D : q * (high * 18446744073709551616 + under) ≤ d * (high * 18446744073709551616 + under) := Nat.mul_le_mul_right _ B
  have e : q * (high * 18446744073709551616 + under) = (q * high) * 18446744073709551616 + q * under := by grind
  have E := h.eq
  generalize q * high = z at *
  generalize q * under = u at *
  generalize d * (high * 18446744073709551616 + under) = v at *
  omega
 omega
theorem GuessI.next {first high : Nat} (h : GuessI d first second high under third q r) (h1 : 1 ≤ q) (hd : d ≤ q - 1) (hr : r + high < 18446744073709551616) :
  GuessI d first second high under third (q - 1) (r + high) := by
 refine ⟨by have := h.word; omega, hr, ?_, hd⟩
 have e := h.eq
 obtain ⟨m, rfl⟩ : ∃ m, q = m + 1 := ⟨q - 1, by omega⟩
 rw [Nat.add_mul, Nat.one_mul] at e
 show m * high + (r + high) = _
 omega
theorem len_shift (n b : Nat) : (limbs (n * 2 ^ b)).length ≤ (limbs n).length + b / 64 + 1 := by
 apply len_limbs_le
 have A := lt_pow_len n
 have B : 0 < 2 ^ b := Nat.pow_pos (by omega)
 refine Nat.lt_of_lt_of_le (Nat.mul_lt_mul_of_pos_right A B) ?_
 rw [W_pow, W_pow, ← Nat.pow_add]
 exact Nat.pow_le_pow_right (by omega) (by omega)
theorem len_div (n d : Nat) : (limbs (n / d)).length ≤ (limbs n).length := len_mono (Nat.div_le_self _ _)
theorem word_many {w : World} {l : List Nat} (ha : IsU w Z a l) (hg : good l = true) (hl : 1 < l.length) :
  Calls Tryz.prog 248 #[a] w fun e w' => e = .returned (.tuple #[.int .u64 0, .int .i64 4]) ∧ w = w' := by
 obtain ⟨A, c, rfl, ha⟩ := ha
 have h := hid (check_good ha hg)
 have B := ha.len
 have C : (1 : Int) < (l.length : Int) := by omega
 clear hg
 go_enter Tryz.func248, Tryz.ntmps248
 go_wp2_with (go_at_call 223; refine h.out.mono ?_; rintro e w' ⟨rfl, rfl⟩)
 go_ret2
 exact ⟨rfl, rfl⟩
theorem word_few {w : World} {l : List Nat} (ha : IsU w Z a l) (hg : good l = true) (hl : l.length ≤ 1) :
  Calls Tryz.prog 248 #[a] w fun e w' => e = .returned (.tuple #[.int .u64 ((l[0]?.getD 0 : Nat) : Int), .int .i64 0]) ∧ w = w' := by
 obtain ⟨A, c, rfl, ha⟩ := ha
 have h := hid (check_good ha hg)
 clear hg
 rcases Nat.eq_zero_or_pos l.length with h0 | h0
 · have D : l = [] := List.length_eq_zero_iff.1 h0
   subst D
   clear h0 hl ha
   go_enter Tryz.func248, Tryz.ntmps248
   go_wp2_with (go_at_call 223; refine h.out.mono ?_; rintro e w' ⟨rfl, rfl⟩)
   go_ret2
   exact ⟨rfl, rfl⟩
 · obtain ⟨b, o, rfl, _, _, _, C⟩ := ha.open h0
   have E := C 0 h0
   have B : l[0]?.getD 0 = l[0] := by simp [h0]
   rw [B]
   rw [Nat.add_zero] at E
   have F := ha.len
   have G : decide ((1 : Int) < (l.length : Int)) = false := by simp; omega
   have H : ((l.length : Int) == 0) = false := beq_eq_false_iff_ne.2 (by omega)
   clear B C
   generalize l[0] = x at *
   go_enter Tryz.func248, Tryz.ntmps248
   go_wp2_with (go_at_call 223; refine h.out.mono ?_; rintro e w' ⟨rfl, rfl⟩)
   go_ret2
   exact ⟨rfl, rfl⟩
theorem isU_one {w : World} (h1 : x < 18446744073709551616) (h : w.cell? ⟨g, 0, none⟩ = some (.int .u64 (x : Int))) :
 IsU w old (.slice (some ⟨g, 0, none⟩) 1 1) [x] := isU_lit rfl (by omega) (by omega) (Small.cons h1 Small.nil) fun j hj => match j, hj with | 0, _ => h
theorem mtrim_any {w : World} {n : Nat} {l : List Nat} (h : U64s w Z A c l) (hn : n = l.length) :
  Calls Tryz.prog 280 #[.slice A n c] w fun e w' => e = .returned (.slice A (limbs (val l)).length (limbs (val l)).length) ∧ w = w' := by
 subst hn
 have H := h.len
 have I := h.cap
 have J := h.max
 go_enter Tryz.func280, Tryz.ntmps280
 go_wp2
 go_loop [3] (fun v => ∃ k : Nat, k ≤ l.length ∧ v = .int .i64 k ∧ Hid (∀ j (hj : j < l.length), k ≤ j → l[j] = 0)) (fun v => (intOf v).toNat)
 case atStart => exact ⟨_, Nat.le_refl _, rfl, fun j hj E => absurd hj (by omega)⟩
 case round =>
  obtain ⟨k, E, rfl, C⟩ := hrel
  by_cases hk0 : k = 0
  · subst hk0
    have K : decide ((0 : Int) < ((0 : Nat) : Int)) = false := rfl
    go_wp2
    go_ret
    have e := trim_take l h.small 0 (by omega) C.out (.inl rfl)
    rw [← e]
    exact ⟨by simp, rfl⟩
  · obtain ⟨b, o, rfl, _, _, _, G⟩ := h.open (by omega)
    have D : k - 1 < l.length := by omega
    have L := G (k - 1) D
    by_cases hl : l[k - 1] = 0
    · have F : ((l[k - 1] : Int) == 0) = true := by simpa using hl
      have B := hid hl
      clear hl
      go_wp2
      go_round
      case rel =>
       refine ⟨k - 1, by omega, by rw [Int.ofNat_sub (by omega)]; rfl, fun j hj hjk => ?_⟩
       rcases Nat.lt_or_ge j k with h1 | h1
       · obtain rfl : j = k - 1 := by omega
         exact B.out
       · exact C.out j hj h1
      case measure => simp [intOf]; omega
    · have F : ((l[k - 1] : Int) == 0) = false := by simpa using hl
      have B := hid hl
      clear hl
      go_wp2
      go_ret
      have e := trim_take l h.small k E C.out (.inr ⟨D, B.out⟩)
      rw [← e]
      exact ⟨by simp; omega, rfl⟩
def Nums (w : World) (g : Nat) (ns : List Nat) : Prop := ∀ j (h : j < ns.length), ∃ v, w.cell? ⟨g, j, none⟩ = some v ∧ IsN w old v ns[j]
theorem Nums.below {w : World} (h : Nums w g ns) (hb : Below w.heap.size w w') : Nums w' g ns := fun j hj => by
 obtain ⟨v, A, B⟩ := h j hj
 exact ⟨v, (hb.cell (p := ⟨g, j, none⟩) (lt_of_cell A)).trans A, B.below hb⟩
theorem nums_two {w : World} {b : Value} {n : Nat} (ha : IsN w Z a m) (hb : IsN w Y b n) : Nums (w.alloc (.cells #[a, b] 33)) w.heap.size [m, n] := by
 have A : Below w.heap.size w (w.alloc (.cells #[a, b] 33)) := (Below.refl _ w).alloc (Nat.le_refl _) _
 intro j hj
 match j, hj with
 | 0, _ => exact ⟨a, cell_newest rfl rfl, ha.old.below A⟩
 | 1, _ => exact ⟨b, cell_newest rfl rfl, hb.old.below A⟩
theorem nums_three {w : World} {X : Zone} {b c : Value} {n k : Nat} (ha : IsN w Z a m) (hb : IsN w Y b n) (hc : IsN w X c k) : Nums (w.alloc (.cells #[a, b, c] 33)) w.heap.size [m, n, k] := by
 have A : Below w.heap.size w (w.alloc (.cells #[a, b, c] 33)) := (Below.refl _ w).alloc (Nat.le_refl _) _
 intro j hj
 match j, hj with
 | 0, _ => exact ⟨a, cell_newest rfl rfl, ha.old.below A⟩
 | 1, _ => exact ⟨b, cell_newest rfl rfl, hb.old.below A⟩
 | 2, _ => exact ⟨c, cell_newest rfl rfl, hc.old.below A⟩
theorem sum_take_le (ns : List Nat) (k : Nat) : (ns.take k).sum ≤ ns.sum := by
 conv => rhs; rw [← List.take_append_drop k ns, List.sum_append]
 omega
theorem sum_any {w : World} {n : Nat} (h : Nums w g ns) (hn : n = ns.length) (hc : ns.length ≤ 1000) (hl : (limbs ns.sum).length ≤ 800000000000) :
  Calls Tryz.prog 273 #[.slice (some ⟨g, 0, none⟩) n c] w fun e w' => ∃ v, e = .returned v ∧ IsN w' (new w.heap.size) v ns.sum ∧ Below w.heap.size w w' := by
 have D := hid hn
 have K : n ≤ 1000 := by omega
 clear hn
 go_enter Tryz.func273, Tryz.ntmps273
 go_wp2
 go_loopw [2, 7] (fun v i wr => ∃ k : Nat, k ≤ n ∧ i = .int .i64 k ∧ IsN wr (new w.heap.size) v (ns.take k).sum ∧ Below w.heap.size w wr) (fun _ i _ => n - (intOf i).toNat)
 case atStart => exact ⟨0, Nat.zero_le _, rfl, by simpa using IsN.zero w (new w.heap.size), Below.refl _ _⟩
 case round =>
  obtain ⟨k, N, rfl, C, B⟩ := hrel
  by_cases hlt : k < n
  · have E : k < ns.length := by rw [← D.out]; exact hlt
    obtain ⟨u, O, H⟩ := (h.below B) k E
    have F : (ns.take (k + 1)).sum = (ns.take k).sum + ns[k] := by rw [List.take_succ_eq_append_getElem E, List.sum_append]; simp
    have L := Nat.le_trans (len_mono (sum_take_le ns k)) hl
    have M := Nat.le_trans (len_mono (show ns[k] ≤ ns.sum by have := sum_take_le ns (k + 1); omega)) hl
    have G := hid F
    clear F
    go_wp2_with fail
    refine (add_good C H (by omega) (by omega)).mono ?_
    rintro e P ⟨x, rfl, I, J⟩
    go_wp2
    go_roundw
    case rel => exact ⟨k + 1, by omega, by go_num, by rw [G.out]; exact I.mono (new_le B.size), from_ B J⟩
    case measure => simp [intOf]; omega
  · obtain rfl : k = n := by omega
    go_wp2
    go_ret
    refine ⟨_, rfl, ?_, B⟩
    rw [D.out, List.take_length] at C
    exact C
theorem rest_any {w : World} {n : Nat} (ha : IsN w Z a m) (h : Nums w g ns) (hn : n = ns.length) (hc : ns.length ≤ 1000) (hle : ns.sum ≤ m) (hl : (limbs m).length ≤ 800000000000) :
  Calls Tryz.prog 272 #[a, .slice (some ⟨g, 0, none⟩) n c] w fun e w' => ∃ v, e = .returned v ∧ IsN w' old v (m - ns.sum) ∧ Below w.heap.size w w' := by
 have D := hid hn
 have M : n ≤ 1000 := by omega
 clear hn
 go_enter Tryz.func272, Tryz.ntmps272
 go_wp2
 go_loopw [0, 9] (fun v i wr => ∃ k : Nat, k ≤ n ∧ i = .int .i64 k ∧ IsN wr old v (m - (ns.take k).sum) ∧ Below w.heap.size w wr) (fun _ i _ => n - (intOf i).toNat)
 case atStart => exact ⟨0, Nat.zero_le _, rfl, by simpa using ha.old, Below.refl _ _⟩
 case round =>
  obtain ⟨k, P, rfl, B, C⟩ := hrel
  by_cases hlt : k < n
  · have E : k < ns.length := by rw [← D.out]; exact hlt
    obtain ⟨u, Q, J⟩ := (h.below C) k E
    have F : (ns.take (k + 1)).sum = (ns.take k).sum + ns[k] := by rw [List.take_succ_eq_append_getElem E, List.sum_append]; simp
    have G := sum_take_le ns (k + 1)
    have N := Nat.le_trans (len_mono (Nat.sub_le m (ns.take k).sum)) hl
    have O := Nat.le_trans (len_mono (show ns[k] ≤ m by omega)) hl
    have H : ns[k] ≤ m - (ns.take k).sum := by omega
    have I := hid (show m - (ns.take (k + 1)).sum = m - (ns.take k).sum - ns[k] by omega)
    clear F G
    go_wp2_with fail
    refine (sub_good B J (by omega) (by omega) H).mono ?_
    rintro e R ⟨x, rfl, K, L⟩
    go_wp2
    go_roundw
    case rel => exact ⟨k + 1, by omega, by go_num, by rw [I.out]; exact K.old, from_ C L⟩
    case measure => simp [intOf]; omega
  · obtain rfl : k = n := by omega
    go_wp2
    go_ret
    refine ⟨_, rfl, ?_, C⟩
    rw [D.out, List.take_length] at B
    exact B
theorem limbs_shiftW (n k : Nat) (h : n ≠ 0) : limbs (n * 18446744073709551616 ^ k) = List.replicate k 0 ++ limbs n := by
 have A : Small (List.replicate k 0 ++ limbs n) := (Small.replicate0 k).append (small_limbs n)
 have B : val (List.replicate k 0 ++ limbs n) = n * 18446744073709551616 ^ k := by
  rw [val_append, val_replicate0, val_limbs, List.length_replicate, Nat.zero_add, Nat.mul_comm]
 have C : 0 < (limbs n).length := by
  rcases Nat.eq_zero_or_pos (limbs n).length with h0 | h0
  · exact absurd (limbs_eq_nil.1 (List.length_eq_zero_iff.1 h0)) h
  · exact h0
 have D : good (List.replicate k 0 ++ limbs n) = true := by
  have g := good_limbs n
  rw [good_last C] at g
  rw [good_last (by simp; omega)]
  rw [← g]
  congr 1
  rw [List.getElem_append_right (by simp; omega)]
  congr 1
  simp
  omega
 rw [← B, limbs_val _ A D]
theorem up_limbs {w : World} {n k : Nat} (ha : IsN w Z a n) (hl : (limbs n).length ≤ 800000000000) (hk : k ≤ 800000000000) :
  Calls Tryz.prog 274 #[a, .int .i64 (k : Int)] w fun e w' => ∃ v, e = .returned v ∧ IsN w' (new w.heap.size) v (n * 18446744073709551616 ^ k) ∧ Below w.heap.size w w' := by
 obtain ⟨A, c, rfl, ha⟩ := ha
 by_cases h0 : n = 0
 · subst h0
   have E : limbs 0 = [] := rfl
   rw [Nat.zero_mul]
   simp only [E, List.length_nil]
   clear E hl ha
   go_enter Tryz.func274, Tryz.ntmps274
   go_wp2
   go_ret
   exact ⟨_, rfl, IsN.zero _ _, Below.refl _ _⟩
 · have L : 0 < (limbs n).length := by
    rcases Nat.eq_zero_or_pos (limbs n).length with h1 | h1
    · exact absurd (limbs_eq_nil.1 (List.length_eq_zero_iff.1 h1)) h0
    · exact h1
   have M : (((limbs n).length : Int) == 0) = false := beq_eq_false_iff_ne.2 (by omega)
   have F := hid (limbs_shiftW n k h0)
   obtain ⟨H, hi, I, J, K⟩ := info_parts Tryz.info143
   obtain ⟨l, D⟩ : ∃ l, l = limbs n := ⟨_, rfl⟩
   rw [← D] at ha hl L M ⊢
   have G := hid D
   clear D h0
   go_enter Tryz.func274, Tryz.ntmps274
   go_wp2_with (first | (at_make; go_loud (refine wpList_make_full _ rfl _ _ 33 rfl w.heap.size 143 H (.int .u64 0) 1 Tryz.underlying33 hi I J .i64 .i64 _ _ k rfl rfl rfl rfl (by rw [K]; omega) (by simp only [maxLen]; omega) (Nat.le_refl _) ?_); intro w1 hown hgrow; have C : Below w.heap.size w w1 := (Below.refl _ w).grown hgrow (Nat.le_refl _) (fun k h => by cases h); have N := ha.below C) | (at_builtin; go_loud (refine wpList_app _ rfl _ _ 33 rfl w.heap.size 143 H Tryz.underlying33 hi I J K _ _ _ rfl hown rfl rfl N (by omega) C.size ?_); intro v' w2 hown' hgrow'))
   have O : w1.grownBy w2 (some w.heap.size) := hgrow'
   go_ret
   obtain ⟨S, T, rfl⟩ := own_shape hown'
   have P : (madeCells (Value.int .u64 0).cells (k * 1)).toList = (List.replicate k 0).map fun x : Nat => Value.int .u64 (x : Int) := by
    rw [Nat.mul_one, List.map_replicate]
    simpa [Value.cells] using toList_madeCells_one (.int .u64 0) k
   rw [P, ← List.map_append] at hown'
   have Q : Small (List.replicate k 0 ++ l) := (Small.replicate0 k).append ha.small
   have R := isU_after (B := w.heap.size) Q (by simp) hown' (Nat.le_refl _)
   refine ⟨_, rfl, ⟨S, T, ?_, ?_⟩, C.grown O C.size (fun k hk => by cases hk; exact Nat.le_refl _)⟩
   · rw [F.out, ← G.out]
     simp
   · rw [F.out, ← G.out]
     exact R
theorem parts_any {w : World} {n k : Nat} (ha : IsN w Z a n) (hl : (limbs n).length ≤ 800000000000) (hk : k ≤ 800000000000) :
  Calls Tryz.prog 271 #[a, .int .i64 (k : Int)] w fun e w' => ∃ u v, e = .returned (.tuple #[u, v]) ∧ IsN w' Z u (n % 18446744073709551616 ^ k) ∧ IsN w' Z v (n / 18446744073709551616 ^ k) ∧ Below w.heap.size w w' := by
 obtain ⟨A, c, rfl, ha⟩ := ha
 have K := ha.cap
 have O := ha.max
 obtain ⟨L, B⟩ : ∃ L, L = (limbs n).length := ⟨_, rfl⟩
 obtain ⟨m, C⟩ : ∃ m, m = min k L := ⟨_, rfl⟩
 have P : min (k : Int) (L : Int) = (m : Int) := by omega
 have Q : m ≤ L := by omega
 have G : (limbs n).take m = (limbs n).take k := by
  rcases Nat.le_total k L with h | h
  · rw [C, Nat.min_eq_left h]
  · rw [C, Nat.min_eq_right h, B, List.take_length, List.take_of_length_le (by omega)]
 have H : (limbs n).drop m = (limbs n).drop k := by
  rcases Nat.le_total k L with h | h
  · rw [C, Nat.min_eq_left h]
  · rw [C, Nat.min_eq_right h, B, List.drop_length, List.drop_eq_nil_of_le (by omega)]
 have D := (ha.take m)
 have I : ((limbs n).take m).length = m := by rw [List.length_take]; omega
 have J := ha.drop (k := m) (by omega)
 have E : U64s w Z A m ((limbs n).take m) := ⟨D.small, by omega, by omega, fun h => by have := D.nul h; omega, D.row⟩
 obtain ⟨M, N⟩ := hid2 (fun q : Nat => mtrim_any (w := w.drewN q) (n := m) (E.below (below_drewN' (Below.refl _ w) q)) I.symm) (isN_trimU (w := w) (t := n % 18446744073709551616 ^ k) (by rw [G, val_limbs_take]) E)
 have F := hid (show IsU w Z (.slice (if c = m then A else A.map (·.add m)) (L - m) (c - m)) (limbs (n / 18446744073709551616 ^ k)) from by
  rw [← limbs_drop, ← H]
  exact ⟨_, _, by rw [List.length_drop, B], J⟩)
 rw [← B] at K ⊢
 clear D I J E G H B C ha hl
 by_cases hcm : c = m
 all_goals
  first | rw [if_pos hcm, show c - m = 0 by omega] at F | rw [if_neg hcm] at F
  go_enter Tryz.func271, Tryz.ntmps271
  go_wp2
  go_quiet ((go_at_call 280; exact Calls.quiet_of_same ((M.out _).mono fun e w' h => ⟨h.1, h.2.symm⟩)))
  go_wp2
  go_ret2
  exact ⟨_, _, rfl, N.out.below (below_drewN' (Below.refl _ w) _), (show IsN w Z _ _ from F.out).below (below_drewN' (Below.refl _ w) _), below_drewN' (Below.refl _ w) _⟩
theorem school_any {w : World} {b : Value} {n : Nat} (ha : IsN w Z a m) (hb : IsN w Y b n) (hl : (limbs m).length ≤ 400000000000) (hl2 : (limbs n).length ≤ 400000000000) :
  Calls Tryz.prog 270 #[a, b] w fun e w' => ∃ v, e = .returned v ∧ IsN w' (new w.heap.size) v (m * n) ∧ Below w.heap.size w w' := by
 obtain ⟨A, ca, rfl, ha⟩ := ha
 obtain ⟨B, cb, rfl, hb⟩ := hb
 have S := ha.small
 have T := hb.small
 have U := val_limbs m
 have V := val_limbs n
 obtain ⟨i0, hi, Kk, Kl, Km⟩ := info_parts Tryz.info143
 generalize limbs m = la at *
 generalize limbs n = lb at *
 obtain ⟨Kn, Ko⟩ := hid2 U V
 clear U V
 go_enter Tryz.func270, Tryz.ntmps270
 go_wp2_with (at_make; go_loud (refine wpList_make_full _ rfl _ _ 33 rfl w.heap.size 143 i0 (.int .u64 0) 1 Tryz.underlying33 hi Kk Kl .i64 .i64 _ _ (la.length + lb.length) rfl rfl (by omega) (by omega) (by rw [Km]; omega) (by simp only [maxLen]; omega) (Nat.le_refl _) ?_); intro w1 F hgrow)
 have W : (madeCells (Value.int .u64 0).cells ((la.length + lb.length) * 1)).toList = (List.replicate (la.length + lb.length) 0).map fun x : Nat => Value.int .u64 (x : Int) := by
  rw [Nat.mul_one, List.map_replicate]
  simpa [Value.cells] using toList_madeCells_one (.int .u64 0) (la.length + lb.length)
 rw [W] at F
 have Kb : Below w.heap.size w w1 := (Below.refl _ w).grown hgrow (Nat.le_refl _) (fun k h => by cases h)
 clear W hgrow
 go_loopw [22] (fun i wr => ∃ (k : Nat) (O : List Nat), k ≤ la.length ∧ i = .int .i64 k ∧ wr.ownsRow w.heap.size 143 1 (.slice (some ⟨w.heap.size, 0, none⟩) (la.length + lb.length) (la.length + lb.length)) (la.length + lb.length) (O.map fun x : Nat => Value.int .u64 (x : Int)) ∧ Row0 la lb k O ∧ Below w.heap.size w wr)
  (fun i _ => la.length - (intOf i).toNat)
 case atStart => exact ⟨0, _, Nat.zero_le _, rfl, F, Row0.start la lb, Kb⟩
 case round =>
  obtain ⟨i, O, Kv, rfl, F, D, N⟩ := hrel
  by_cases hlt : i < la.length
  · obtain ⟨b1, J, rfl, _, Kp, _, u⟩ := ha.open (by omega)
    have hx := (N.cell (p := ⟨b1, J + i, none⟩) Kp).trans (u i hlt)
    have M := S.get hlt
    have Kc : la[i]?.getD 0 = la[i] := by simp [hlt]
    have Hx := hid (⟨hlt, rfl⟩ : ∃ h : i < la.length, la[i] = la[i])
    obtain ⟨x, P⟩ : ∃ x, x = la[i] := ⟨_, rfl⟩
    rw [← P] at hx M
    have Kd := hid P
    clear P Kc Hx u
    obtain ⟨z, rfl⟩ : ∃ z : World, z = wr := ⟨_, rfl⟩
    go_wp2
    go_loopw [29, 8] (fun jv cv wr => ∃ (j : Nat) (O : List Nat) (C : Nat), j ≤ lb.length ∧ jv = .int .i64 j ∧ cv = .int .u64 (C : Int) ∧ wr.ownsRow w.heap.size 143 1 (.slice (some ⟨w.heap.size, 0, none⟩) (la.length + lb.length) (la.length + lb.length)) (la.length + lb.length) (O.map fun x : Nat => Value.int .u64 (x : Int)) ∧ Row1 la lb i j O C ∧ Below w.heap.size w wr)
     (fun jv _ _ => lb.length - (intOf jv).toNat)
    case atStart => exact ⟨0, O, 0, Nat.zero_le _, rfl, rfl, F, D.first, N⟩
    case round =>
     obtain ⟨j, G, C, hj, rfl, rfl, I, H, Q⟩ := hrel
     by_cases hjlt : j < lb.length
     · obtain ⟨b2, o2, rfl, _, Kq, _, Ka⟩ := hb.open (by omega)
       have hy := (Q.cell (p := ⟨b2, o2 + j, none⟩) Kq).trans (Ka j hjlt)
       have X := T.get hjlt
       obtain ⟨K, L⟩ := H.step hlt hjlt S T
       have Ke : i + j < la.length + lb.length := by omega
       have E := I.cellAt (i + j) (by omega)
       rw [List.getElem?_map, List.getElem?_eq_getElem K] at E
       have c := H.small.get K
       have d := H.word
       have Kf : _ = some (Value.int .u64 (G[i + j] : Int)) := E
       have Kg := I.frozenAt (i + j)
       rw [← Kd.out] at L
       clear E Ka
       generalize lb[j] = y at *
       generalize G[i + j] = o at *
       obtain ⟨q1, R, q3⟩ := step_limbs M X c d
       rw [← q1, ← R] at L
       rw [← R] at q3
       have g := fun w => bits_Mul64 x y M X w
       have Kh : x * y % 18446744073709551616 < 18446744073709551616 := Nat.mod_lt _ (by omega)
       have Ks : ∀ w, (callFunc 253 #[.int .u64 ((x * y % 18446744073709551616 : Nat) : Int), .int .u64 (o : Int), .int .u64 0]).run Tryz.prog w = .ok (.value (.tuple #[.int .u64 (((x * y % 18446744073709551616 + o) % 18446744073709551616 : Nat) : Int), .int .u64 (((x * y % 18446744073709551616 + o) / 18446744073709551616 : Nat) : Int)])) w := fun w => run_Add64 _ _ 0 w Kh c (by omega)
       have Ki : (x * y % 18446744073709551616 + o) % 18446744073709551616 < 18446744073709551616 := Nat.mod_lt _ (by omega)
       have Kt : ∀ w, (callFunc 253 #[.int .u64 (((x * y % 18446744073709551616 + o) % 18446744073709551616 : Nat) : Int), .int .u64 (C : Int), .int .u64 0]).run Tryz.prog w = .ok (.value (.tuple #[.int .u64 ((((x * y % 18446744073709551616 + o) % 18446744073709551616 + C) % 18446744073709551616 : Nat) : Int), .int .u64 ((((x * y % 18446744073709551616 + o) % 18446744073709551616 + C) / 18446744073709551616 : Nat) : Int)])) w := fun w => run_Add64 _ _ 0 w Ki d (by omega)
       clear q1 R
       generalize ((x * y % 18446744073709551616 + o) % 18446744073709551616 + C) % 18446744073709551616 = s2 at *
       generalize ((x * y % 18446744073709551616 + o) % 18446744073709551616 + C) / 18446744073709551616 = c2 at *
       generalize (x * y % 18446744073709551616 + o) % 18446744073709551616 = s1 at *
       generalize (x * y % 18446744073709551616 + o) / 18446744073709551616 = c1 at *
       generalize x * y % 18446744073709551616 = lo at *
       generalize x * y / 18446744073709551616 = hi1 at *
       have Kj := hid L
       have J := I.stored (i + j) (.int .u64 (s2 : Int))
       clear L H D F
       go_wp2_with fail
       refine (g _).mono ?_
       rintro e w' ⟨rfl, rfl⟩
       clear g
       go_wp2
       go_roundw
       case rel =>
        refine ⟨j + 1, G.set (i + j) s2, hi1 + c1 + c2, by omega, by go_num, by congr 1, ?_, Kj.out, Q.setCell (p := ⟨w.heap.size, i + j, none⟩) (Nat.le_refl _) _⟩
        rw [List.map_set]
        exact J.1
       case measure => simp [intOf]; omega
     · obtain rfl : j = lb.length := by omega
       have q := H.last hlt
       have K : i + lb.length < G.length := by have := H.len; omega
       have E := I.cellAt (i + lb.length) (by omega)
       rw [List.getElem?_map, List.getElem?_eq_getElem K] at E
       have Kf : _ = some (Value.int .u64 (G[i + lb.length] : Int)) := E
       have Kg := I.frozenAt (i + lb.length)
       have Ke : i + lb.length < la.length + lb.length := by omega
       have J := I.stored (i + lb.length) (.int .u64 (C : Int))
       generalize G[i + lb.length] = old1 at *
       have Hl := hid q
       clear q E H D F
       go_wp2
       go_roundw
       case rel =>
        refine ⟨i + 1, G.set (i + lb.length) C, by omega, by go_num, ?_, Hl.out, Q.setCell (p := ⟨w.heap.size, i + lb.length, none⟩) (Nat.le_refl _) _⟩
        rw [List.map_set]
        exact J.1
       case measure => simp [intOf]; omega
  · obtain rfl : i = la.length := by omega
    have r := D.done
    have s := isU_after (B := w.heap.size) D.small D.len.symm F (Nat.le_refl _)
    obtain ⟨Hv, Kr⟩ := hid2 r D.len.symm
    clear r D
    go_wp2_with (go_at_call 280; refine (mtrim_any s Kr.out).mono ?_; rintro e w' ⟨rfl, rfl⟩)
    go_ret
    refine ⟨_, rfl, isN_trimU ?_ s, N⟩
    rw [Hv.out, Kn.out, Ko.out]
theorem lt_of_lenW {k : Nat} (h : k < (limbs m).length) : 18446744073709551616 ^ k ≤ m := by
 rcases Nat.lt_or_ge m (18446744073709551616 ^ k) with h1 | h1
 · have := len_limbs_le h1
   omega
 · exact h1
theorem split_less {k : Nat} (hk : 0 < k) (h : 18446744073709551616 ^ k ≤ m) : m % 18446744073709551616 ^ k < m ∧ m / 18446744073709551616 ^ k < m ∧ m % 18446744073709551616 ^ k + m / 18446744073709551616 ^ k < m := by
 have A : 2 ≤ 18446744073709551616 ^ k := by
  have : 18446744073709551616 ^ 1 ≤ 18446744073709551616 ^ k := Nat.pow_le_pow_right (by omega) hk
  omega
 generalize 18446744073709551616 ^ k = B at *
 have C := Nat.div_add_mod m B
 have D := Nat.mod_lt m (show 0 < B by omega)
 have E : 1 ≤ m / B := (Nat.le_div_iff_mul_le (by omega)).2 (by omega)
 generalize m / B = q at *
 generalize m % B = r at *
 have F : 2 * q ≤ B * q := Nat.mul_le_mul_right _ A
 omega
theorem split_le (m k : Nat) : m % 18446744073709551616 ^ k + m / 18446744073709551616 ^ k ≤ m := by
 have A : 0 < 18446744073709551616 ^ k := Nat.pow_pos (by omega)
 generalize 18446744073709551616 ^ k = B at *
 have C := Nat.div_add_mod m B
 generalize m / B = q at *
 generalize m % B = r at *
 have D : 1 * q ≤ B * q := Nat.mul_le_mul_right _ A
 omega
theorem len_mul_le {p : Nat} (hp : (limbs p).length ≤ i) (hq : (limbs q).length ≤ j) : (limbs (p * q)).length ≤ i + j := by
 refine len_limbs_le ?_
 rw [Nat.pow_add]
 exact Nat.mul_lt_mul'' (len_lt hp) (len_lt hq)
structure Split (m n k t x0 x1 y0 y1 : Nat) : Prop where
 l1 : x0 + y0 < t
 l2 : x1 + y1 < t
 l3 : x0 + x1 + (y0 + y1) < t
 a0 : (limbs x0).length ≤ 100000000000
 a1 : (limbs x1).length ≤ 100000000000
 asum : (limbs (x0 + x1)).length ≤ 100000000000
 b0 : (limbs y0).length ≤ 100000000000
 b1 : (limbs y1).length ≤ 100000000000
 bsum : (limbs (y0 + y1)).length ≤ 100000000000
 pl : (limbs ((x0 + x1) * (y0 + y1))).length ≤ 200000000000
 ml : (limbs ((x0 + x1) * (y0 + y1) - (x0 * y0 + x1 * y1))).length ≤ 200000000000
 ql : (limbs (x1 * y1)).length ≤ 200000000000
 le : x0 * y0 + x1 * y1 ≤ (x0 + x1) * (y0 + y1)
 out : x0 * y0 + (((x0 + x1) * (y0 + y1) - (x0 * y0 + x1 * y1)) * 18446744073709551616 ^ k + x1 * y1 * 18446744073709551616 ^ (2 * k)) = m * n
 ol : (limbs (m * n)).length ≤ 200000000000
theorem split_all {n k t : Nat} (ht : m + n = t) (hk : 0 < k) (hm : (limbs m).length ≤ 100000000000) (hn : (limbs n).length ≤ 100000000000) (hbig : 18446744073709551616 ^ k ≤ m ∨ 18446744073709551616 ^ k ≤ n) :
  Split m n k t (m % 18446744073709551616 ^ k) (m / 18446744073709551616 ^ k) (n % 18446744073709551616 ^ k) (n / 18446744073709551616 ^ k) := by
 have E := split_le m k
 have F := split_le n k
 have G := Nat.div_add_mod m (18446744073709551616 ^ k)
 have H := Nat.div_add_mod n (18446744073709551616 ^ k)
 have A : m % 18446744073709551616 ^ k + n % 18446744073709551616 ^ k < t ∧ m / 18446744073709551616 ^ k + n / 18446744073709551616 ^ k < t ∧ m % 18446744073709551616 ^ k + m / 18446744073709551616 ^ k + (n % 18446744073709551616 ^ k + n / 18446744073709551616 ^ k) < t := by
  rcases hbig with h | h
  · obtain ⟨P, Q, R⟩ := split_less hk h
    omega
  · obtain ⟨P, Q, R⟩ := split_less hk h
    omega
 have C : 18446744073709551616 ^ (2 * k) = 18446744073709551616 ^ k * 18446744073709551616 ^ k := by rw [Nat.two_mul, Nat.pow_add]
 obtain ⟨N, O⟩ : ∃ N, N = 18446744073709551616 ^ (2 * k) := ⟨_, rfl⟩
 obtain ⟨B, D⟩ : ∃ B, B = 18446744073709551616 ^ k := ⟨_, rfl⟩
 rw [← D] at E F G H A C
 rw [← O] at C
 rw [← D]
 generalize m % B = x0 at *
 generalize m / B = x1 at *
 generalize n % B = y0 at *
 generalize n / B = y1 at *
 obtain ⟨S, T, U⟩ := split_mul3 x0 x1 y0 y1 B
 have I := Nat.le_trans (len_mono E) hm
 have J := Nat.le_trans (len_mono F) hn
 have K := Nat.le_trans (len_mono (show x1 ≤ m by omega)) hm
 have L := Nat.le_trans (len_mono (show y1 ≤ n by omega)) hn
 have M := len_mul_le I J
 refine ⟨A.1, A.2.1, A.2.2, Nat.le_trans (len_mono (show x0 ≤ m by omega)) hm, K, I, Nat.le_trans (len_mono (show y0 ≤ n by omega)) hn, L, J, M, Nat.le_trans (len_mono (Nat.sub_le _ _)) M, len_mul_le K L, T, ?_, len_mul_le hm hn⟩
 rw [S, ← D, ← O, C, ← Nat.add_assoc, U, Nat.add_comm x0, Nat.add_comm y0, G, H]
theorem make_any (s : Nat) (hs : 1 ≤ s) (hs2 : s ≤ 1000) (t : Nat) : ∀ (m n : Nat), m + n = t → ∀ {w : World} {Z Y : Zone} {a b : Value}, IsN w Z a m → IsN w Y b n → (limbs m).length ≤ 100000000000 → (limbs n).length ≤ 100000000000 →
  Calls Tryz.prog 256 #[.int .i64 (s : Int), a, b] w fun e w' => ∃ v, e = .returned v ∧ IsN w' (new w.heap.size) v (m * n) ∧ Below w.heap.size w w' := by
 induction t using Nat.strongRecOn with
 | ind t ih =>
   intro m n ht w Z Y a b T U hla hlb
   have O := T
   have P := U
   obtain ⟨A, ca, rfl, T⟩ := T
   obtain ⟨B, cb, rfl, U⟩ := U
   obtain ⟨G, q⟩ : ∃ G, G = (limbs m).length := ⟨_, rfl⟩
   obtain ⟨Lb, y⟩ : ∃ Lb, Lb = (limbs n).length := ⟨_, rfl⟩
   rw [← q] at O ⊢
   rw [← y] at P ⊢
   have Ks : G ≤ 100000000000 := by omega
   have Kt : Lb ≤ 100000000000 := by omega
   by_cases hmin : min G Lb ≤ s
   · have hd : min (G : Int) (Lb : Int) ≤ (s : Int) := by omega
     clear T U q y ih
     go_enter Tryz.func256, Tryz.ntmps256
     go_wp2_with fail
     refine (school_any O P (by omega) (by omega)).mono ?_
     rintro e w1 ⟨v, rfl, W, Kr⟩
     go_wp2
     go_ret
     exact ⟨v, rfl, W, Kr⟩
   · have hd : ¬ min (G : Int) (Lb : Int) ≤ (s : Int) := by omega
     obtain ⟨k, hk⟩ : ∃ k, k = (max G Lb + 1) / 2 := ⟨_, rfl⟩
     have Kj : 0 < k := by omega
     have Kf : max G Lb = G ∨ max G Lb = Lb := by omega
     have Kk : k < max G Lb := by omega
     have Kg : 18446744073709551616 ^ k ≤ m ∨ 18446744073709551616 ^ k ≤ n := by
      rcases Kf with h | h
      · exact .inl (lt_of_lenW (by omega))
      · exact .inr (lt_of_lenW (by omega))
     have Kv : (max (G : Int) (Lb : Int) + 1) / 2 = (k : Int) := by omega
     have Kw : k ≤ 100000000000 := by omega
     have Kh := split_all ht Kj (by omega) (by omega) Kg
     clear T U
     have i := hid ih
     clear ih
     have Hs := hid Kh
     clear Kh Kg q y hk Kf Kk hmin ht
     go_enter Tryz.func256, Tryz.ntmps256
     go_wp2_with fail
     refine (parts_any O (by omega) (by omega)).mono ?_
     rintro e w1 ⟨x0, x1, rfl, H, I, b1⟩
     replace O := O.below b1
     replace P := P.below b1
     go_wp2_with fail
     refine (parts_any P (by omega) (by omega)).mono ?_
     rintro e w2 ⟨y0, y1, rfl, J, K, X⟩
     replace H := H.below X
     replace I := I.below X
     have C := from_ b1 X
     clear b1 X O P
     obtain ⟨Kx, Ka⟩ : ∃ x, x = m % 18446744073709551616 ^ k := ⟨_, rfl⟩
     obtain ⟨Ky, Kb⟩ : ∃ x, x = m / 18446744073709551616 ^ k := ⟨_, rfl⟩
     obtain ⟨Kz, Kc⟩ : ∃ x, x = n % 18446744073709551616 ^ k := ⟨_, rfl⟩
     obtain ⟨KA, Kd⟩ : ∃ x, x = n / 18446744073709551616 ^ k := ⟨_, rfl⟩
     rw [← Ka, ← Kb, ← Kc, ← Kd] at Hs
     rw [← Ka] at H
     rw [← Kb] at I
     rw [← Kc] at J
     rw [← Kd] at K
     clear Ka Kb Kc Kd
     have D := Hs.out
     go_wp2_with fail
     refine (i.out _ D.l1 _ _ rfl H J D.a0 D.b0).mono ?_
     rintro e w3 ⟨f, rfl, E, R⟩
     replace H := H.below R
     replace I := I.below R
     replace J := J.below R
     replace K := K.below R
     replace C := from_ C R
     clear R
     go_wp2_with fail
     refine (i.out _ D.l2 _ _ rfl I K D.a1 D.b1).mono ?_
     rintro e w4 ⟨l, rfl, F, N⟩
     replace H := H.below N
     replace I := I.below N
     replace J := J.below N
     replace K := K.below N
     replace E := E.below N
     replace C := from_ C N
     clear N
     have kf := E
     have kl := F
     have Kl := H
     have Km := I
     have Kn := J
     have Ko := K
     obtain ⟨_, _, rfl, -⟩ := kf
     obtain ⟨_, _, rfl, -⟩ := kl
     obtain ⟨_, _, rfl, -⟩ := Kl
     obtain ⟨_, _, rfl, -⟩ := Km
     obtain ⟨_, _, rfl, -⟩ := Kn
     obtain ⟨_, _, rfl, -⟩ := Ko
     go_wp2_with fail
     refine (sum_any (nums_two H I) rfl (by simp) (by simpa using Nat.le_trans D.asum (by omega))).mono ?_
     rintro e w5 ⟨sx, rfl, S, L⟩
     replace L : Below w4.heap.size w4 w5 := step (by first | exact Below.refl _ _ | go_grown) L
     replace J := J.below L
     replace K := K.below L
     replace E := E.below L
     replace F := F.below L
     replace C := from_ C L
     clear L
     go_wp2_with fail
     refine (sum_any (nums_two J K) rfl (by simp) (by simpa using Nat.le_trans D.bsum (by omega))).mono ?_
     rintro e w6 ⟨sy, rfl, Ke, M⟩
     replace M : Below w5.heap.size w5 w6 := step (by first | exact Below.refl _ _ | go_grown) M
     replace S := S.below M
     replace E := E.below M
     replace F := F.below M
     replace C := from_ C M
     clear M
     simp only [List.sum_cons, List.sum_nil, Nat.add_zero] at S Ke
     go_wp2_with fail
     refine (i.out _ D.l3 _ _ rfl S Ke D.asum D.bsum).mono ?_
     rintro e w7 ⟨p, rfl, hp, c⟩
     replace E := E.below c
     replace F := F.below c
     replace C := from_ C c
     clear c S Ke
     go_wp2_with fail
     refine (rest_any (hp.below ((Below.refl _ w7).alloc (Nat.le_refl _) _)) (nums_two E F) rfl (by simp) (by simpa using D.le) (Nat.le_trans D.pl (by omega))).mono ?_
     rintro e w8 ⟨r, rfl, hr, Q⟩
     replace Q : Below w7.heap.size w7 w8 := step (by first | exact Below.refl _ _ | go_grown) Q
     replace E := E.below Q
     replace F := F.below Q
     replace C := from_ C Q
     clear Q hp
     simp only [List.sum_cons, List.sum_nil, Nat.add_zero] at hr
     go_wp2_with fail
     refine (up_limbs hr (Nat.le_trans D.ml (by omega)) (by omega)).mono ?_
     rintro e w9 ⟨u, rfl, V, d⟩
     replace E := E.below d
     replace F := F.below d
     replace C := from_ C d
     clear d hr
     have j := up_limbs (k := 2 * k) F (Nat.le_trans D.ql (by omega)) (by omega)
     rw [show ((2 * k : Nat) : Int) = 2 * (k : Int) by omega] at j
     have Kp := hid j
     clear j
     go_wp2_with fail
     refine Kp.out.mono ?_
     rintro e Ki ⟨v, rfl, W, g⟩
     replace E := E.below g
     replace V := V.below g
     replace C := from_ C g
     clear g F
     have ku := V
     have kv := W
     obtain ⟨_, _, rfl, -⟩ := ku
     obtain ⟨_, _, rfl, -⟩ := kv
     go_wp2_with fail
     refine (sum_any (nums_three E V W) rfl (by simp) (by simp only [List.sum_cons, List.sum_nil, Nat.add_zero]; rw [D.out]; exact Nat.le_trans D.ol (by omega))).mono ?_
     rintro e w11 ⟨z, rfl, hz, o⟩
     replace o : Below Ki.heap.size Ki w11 := step (by first | exact Below.refl _ _ | go_grown) o
     replace Kq := from_ C o
     simp only [List.sum_cons, List.sum_nil, Nat.add_zero] at hz
     rw [D.out] at hz
     go_wp2
     go_ret
     exact ⟨_, rfl, hz.mono (new_le (by have := C.size; simp at *; omega)), Kq⟩
open Go.RowKit Go.Shelf
structure Just (g : Nat) (w w' : World) : Prop where
 os : w'.os = w.os
 tape : w'.tape = w.tape
 output : w'.output = w.output
 size : w.heap.size ≤ w'.heap.size
 block : ∀ k, k < w.heap.size → k ≠ g → w'.heap[k]? = w.heap[k]?
theorem Just.refl (g : Nat) (w : World) : Just g w w := ⟨rfl, rfl, rfl, Nat.le_refl _, fun _ _ _ => rfl⟩
theorem Just.trans {a b c : World} (h : Just g a b) (k : Just g b c) : Just g a c :=
 ⟨k.os.trans h.os, k.tape.trans h.tape, k.output.trans h.output, Nat.le_trans h.size k.size, fun i hi hg => (k.block i (Nat.lt_of_lt_of_le hi h.size) hg).trans (h.block i hi hg)⟩
theorem Just.step {a b c : World} (h : Just g a b) (k : Below b.heap.size b c) : Just g a c :=
 h.trans ⟨k.os, k.tape, k.output, k.size, fun i hi _ => k.block i hi⟩
theorem Just.drew {a b : World} (h : Just g a b) : Just g a b.drew := h.step (bdr_)
theorem Just.setCell {a b : World} (h : Just g a b) (o : Nat) (u : Value) : Just g a (b.setCell ⟨g, o, none⟩ u) :=
 h.trans ⟨rfl, rfl, rfl, by simp [World.setCell], fun i _ hg => Below.heap_setCell _ _ _ _ hg⟩
theorem Just.below {B : Nat} {a b : World} (h : Just g a b) (hB : B ≤ g) (hs : B ≤ a.heap.size) : Below B a b :=
 ⟨h.os, h.tape, h.output, h.size, fun k hk => h.block k (by omega) (by omega)⟩
theorem Just.cell {w : World} {v : Value} (h : Just g w w') (hg : b ≠ g) (hc : w.cell? ⟨b, i, none⟩ = some v) : w'.cell? ⟨b, i, none⟩ = some v :=
 (World.cell?_of_block (w := w) (a := ⟨b, i, none⟩) (h.block b (lt_of_cell hc) hg)).trans hc
theorem Just.words {w : World} {l : List Nat} (h : Just g w w') (hz : ¬ Z.blk g) (hu : U64s w Z A c l) : U64s w' Z A c l :=
 hu.keep fun b hb hl => h.block b hl (fun e => hz (e ▸ hb))
def only (g : Nat) : Zone := ⟨fun b => b = g, True⟩
theorem U64s.cellAt {w : World} {l : List Nat} (h : U64s w Z (some ⟨b, o, none⟩) c l) (hj : j < l.length) : w.cell? ⟨b, o + j, none⟩ = some (.int .u64 (l[j] : Int)) := by
 obtain ⟨B, C, e, _, _, _, A⟩ := h.open (by omega)
 injection e with e
 injection e with e1 e2
 subst e1 e2
 exact A j hj
theorem U64s.frozenAt {w : World} {l : List Nat} (h : U64s w Z (some ⟨b, o, none⟩) c l) (hz : Z.soft) (h0 : 0 < l.length) (j : Nat) : w.frozen? ⟨b, o + j, none⟩ = false := by
 obtain ⟨B, C, e, _, _, A, _⟩ := h.open h0
 injection e with e
 injection e with e1 e2
 subst e1 e2
 exact A hz j
theorem U64s.store {w : World} {l : List Nat} (h : U64s w Z (some ⟨b, o, none⟩) c l) (hj : j < l.length) (hv : v < 18446744073709551616) :
  U64s (w.setCell ⟨b, o + j, none⟩ (.int .u64 (v : Int))) Z (some ⟨b, o, none⟩) c (l.set j v) := by
 refine ⟨small_set h.small _ _ hv, by rw [List.length_set]; exact h.cap, h.max, h.nul, fun _ => ?_⟩
 obtain ⟨D, E, e, B, _, C, A⟩ := h.open (by omega)
 injection e with e
 injection e with e1 e2
 subst e1 e2
 refine ⟨b, o, rfl, B, fun hs i => (World.frozen?_setCell _ _ _ _).trans (C hs i), fun i u hu => ?_⟩
 rw [List.getElem?_map] at hu
 by_cases hij : j = i
 · subst hij
   rw [List.getElem?_set_self hj] at hu
   simp only [Option.map_some, Option.some.injEq] at hu
   subst hu
   exact World.cell?_setCell_same _ _ _ (A j hj)
 · rw [List.getElem?_set_ne hij] at hu
   rw [World.cell?_setCell_other _ _ _ _ (by simp [hij])]
   by_cases hi : i < l.length
   · rw [List.getElem?_eq_getElem hi] at hu
     rw [A i hi]
     simpa using hu
   · rw [List.getElem?_eq_none (by omega)] at hu
     cases hu
theorem U64s.drew {w : World} {l : List Nat} (h : U64s w Z A c l) : U64s w.drew Z A c l := h.below ((Below.refl _ w).drew)
structure Divr (w : World) (g rb ro cR : Nat) (Zd : Zone) (B : Option Addr) (cD : Nat) (R D : List Nat) : Prop where
 c0 : w.cell? ⟨g, 0, none⟩ = some (.slice (some ⟨rb, ro, none⟩) R.length cR)
 c1 : w.cell? ⟨g, 1, none⟩ = some (.slice B D.length cD)
 own : U64s w (only rb) (some ⟨rb, ro, none⟩) cR R
 by_ : U64s w Zd B cD D
 ne : g ≠ rb
 nz : ¬ Zd.blk rb
 max : R.length ≤ 100000000000
theorem Divr.just {w : World} (h : Divr w g rb ro cR Zd B cD R D) (hj : Just rb w w') (hl : R'.length = R.length)
  (ho : U64s w' (only rb) (some ⟨rb, ro, none⟩) cR R') : Divr w' g rb ro cR Zd B cD R' D :=
 ⟨by rw [hl]; exact hj.cell h.ne h.c0, hj.cell h.ne h.c1, ho, hj.words h.nz h.by_, h.ne, h.nz, by rw [hl]; exact h.max⟩
structure Taken (w : World) (rb ro cR : Nat) (R D : List Nat) (q a : Nat) (less : Nat) (w' : World) (R' : List Nat) : Prop where
 one : less ≤ 1
 len : R'.length = R.length
 small : Small R'
 same : ∀ j (h : j < R'.length) (h' : j < R.length), a + D.length < j → R'[j] = R[j]
 eq : val R' + q * val D * 18446744073709551616 ^ a = val R + less * 18446744073709551616 ^ (a + D.length + 1)
 own : U64s w' (only rb) (some ⟨rb, ro, none⟩) cR R'
 just : Just rb w w'
theorem take_limbs (hq : q < 18446744073709551616) (hy : y < 18446744073709551616) (hc : c < 18446744073709551616) :
  (q * y % 18446744073709551616 + c) % 18446744073709551616 = (q * y + c) % 18446744073709551616 ∧
  q * y / 18446744073709551616 + (q * y % 18446744073709551616 + c) / 18446744073709551616 = (q * y + c) / 18446744073709551616 ∧
  (q * y + c) / 18446744073709551616 < 18446744073709551616 := by
 have h := mul_lt_W hq hy
 generalize q * y = p at *
 omega
theorem take_any {w : World} {a : Nat} (h : Divr w g rb ro cR Zd B cD R D) (hq : q < 18446744073709551616) (hn : a + D.length < R.length) :
  Calls Tryz.prog 288 #[.pointer (some ⟨g, 0, none⟩), .int .u64 (q : Int), .int .i64 (a : Int)] w fun e w' => ∃ less R', e = .returned (.bool (decide (0 < less))) ∧ Taken w rb ro cR R D q a less w' R' := by
 obtain ⟨nR, Y⟩ : ∃ nR, nR = R.length := ⟨_, rfl⟩
 have Z := h.max
 have c0 := h.c0
 rw [← Y] at c0 Z
 have c1 := h.c1
 have b := TakeI.start (R0 := R) (D := D) (q := q) (a := a) h.own.small
 have c := h.own
 have d := h.ne
 have j := h.nz
 have P := h.by_
 have W := P.small
 obtain ⟨Kb, Kh, T⟩ := hid3 d j Y
 clear h d j Y
 have Ki : D.length ≤ 100000000000 := by have := T.out; omega
 have Kj : nR ≤ 100000000000 := Z
 have Kk : a + D.length < nR := by have := T.out; omega
 clear hn
 go_enter Tryz.func288, Tryz.ntmps288
 go_wp2
 go_loopw [20, 7, 8] (fun iv cv lv wr => ∃ (i : Nat) (R' : List Nat) (C J : Nat), i ≤ D.length ∧ iv = .int .i64 i ∧ cv = .int .u64 (C : Int) ∧ lv = .int .u64 (J : Int) ∧ Hid (U64s wr (only rb) (some ⟨rb, ro, none⟩) cR R') ∧ Hid (TakeI R D q a i R' C J) ∧ Just rb w wr) (fun iv _ _ _ => D.length - (intOf iv).toNat)
 case atStart => exact ⟨0, R, 0, 0, Nat.zero_le _, rfl, rfl, rfl, hid c, hid b, Just.refl _ _⟩
 case round =>
  obtain ⟨i, R', C, J, hi, rfl, rfl, rfl, H, F, K⟩ := hrel
  have k0 := K.cell Kb.out c0
  have k1 := K.cell Kb.out c1
  have m := F.out.len
  have Q := F.out.word
  have S := F.out.one
  have o := hid m
  clear m b c c0 c1
  by_cases hlt : i < D.length
  · have r := K.words Kh.out P
    obtain ⟨b2, o2, rfl, Kn, _, _, Kc⟩ := r.open (by omega)
    have hy := Kc i hlt
    have s := W.get hlt
    have E : a + i < R'.length := by have := o.out; have := T.out; omega
    have Kd := H.out.cellAt E
    have I := F.out.small.get E
    have Ke := H.out.frozenAt trivial (by omega) (a + i)
    have Kl : a + i < nR := by omega
    obtain ⟨m1, m2, m3⟩ := take_limbs hq s Q
    have t : (q * D[i] + C) % 18446744073709551616 < 18446744073709551616 := Nat.mod_lt _ (by omega)
    obtain ⟨v, G, L, M, N, U, O⟩ := sub_limb I t S
    have u := F.out.step hlt E N U m3 O
    have z := hid u
    have Ka := fun w => bits_Mul64 q D[i] hq s w
    have Kf : q * D[i] % 18446744073709551616 < 18446744073709551616 := Nat.mod_lt _ (by omega)
    have Km : ∀ w, (callFunc 253 #[.int .u64 ((q * D[i] % 18446744073709551616 : Nat) : Int), .int .u64 (C : Int), .int .u64 0]).run Tryz.prog w = .ok (.value (.tuple #[.int .u64 (((q * D[i] + C) % 18446744073709551616 : Nat) : Int), .int .u64 (((q * D[i] % 18446744073709551616 + C) / 18446744073709551616 : Nat) : Int)])) w := fun w => by
     rw [← m1]
     exact run_Add64 _ _ 0 w Kf Q (by omega)
    have Kg : ∀ w, (callFunc 254 #[.int .u64 (R'[a + i] : Int), .int .u64 (((q * D[i] + C) % 18446744073709551616 : Nat) : Int), .int .u64 (J : Int)]).run Tryz.prog w = .ok (.value (.tuple #[.int .u64 (v : Int), .int .u64 (G : Int)])) w := fun w => by
     rw [L, M]
     exact run_Sub64 _ _ _ w I t S
    have X := hid (H.out.store E N)
    clear L M O u F Kc
    rw [← m2] at m3 z
    clear m1 m2
    generalize D[i] = y at *
    generalize R'[a + i] = x at *
    generalize (q * y % 18446744073709551616 + C) / 18446744073709551616 = ca at *
    generalize (q * y + C) % 18446744073709551616 = lo at *
    generalize q * y % 18446744073709551616 = lo0 at *
    generalize q * y / 18446744073709551616 = hi1 at *
    clear P W r
    go_wp2_with fail
    refine (Ka _).mono ?_
    rintro e w' ⟨rfl, rfl⟩
    clear Ka
    go_wp2
    go_region
    all_goals
     go_wp2
     go_roundw
     case rel =>
      refine ⟨i + 1, R'.set (a + i) v, _, G, by omega, by go_num, rfl, rfl, ?_, z, (K.setCell (ro + (a + i)) (.int .u64 (v : Int))).drew⟩
      exact hid (X.out.drew)
     case measure => simp [intOf]; omega
  · obtain rfl : i = D.length := by omega
    have E : a + D.length < R'.length := by have := o.out; have := T.out; omega
    have Kd := H.out.cellAt E
    have I := F.out.small.get E
    have Ke := H.out.frozenAt trivial (by omega) (a + D.length)
    obtain ⟨v, G, L, M, N, U, O⟩ := sub_limb I Q S
    obtain ⟨e1, e2, e3, e4⟩ := F.out.last E N U O
    have Kg : ∀ w, (callFunc 254 #[.int .u64 (R'[a + D.length] : Int), .int .u64 (C : Int), .int .u64 (J : Int)]).run Tryz.prog w = .ok (.value (.tuple #[.int .u64 (v : Int), .int .u64 (G : Int)])) w := fun w => by
     rw [L, M]
     exact run_Sub64 _ _ _ w I Q S
    obtain ⟨X, V⟩ := hid2 (H.out.store E N) (And.intro e1 (And.intro e2 (And.intro e3 e4)))
    have hd : decide ((0 : Int) < (G : Int)) = decide (0 < G) := decide_eq_decide.2 (by omega)
    have Hd := hid hd
    clear L M O e1 e2 e3 e4 F hd
    generalize R'[a + D.length] = x at *
    clear P W
    go_wp2
    go_region
    all_goals
     go_wp2
     go_ret
     refine ⟨G, R'.set (a + D.length) v, ?_, ⟨U, V.out.1, V.out.2.1, V.out.2.2.1, V.out.2.2.2, ?_, (K.setCell (ro + (a + D.length)) (.int .u64 (v : Int))).drew⟩⟩
     · first | rfl | (rw [← Hd.out]; rfl) | (simp; done)
     · exact X.out.drew
theorem checked_split (s : Nat) (hs : 1 ≤ s) (hs2 : s ≤ 1000) {w : World} {b : Value} {n : Nat} (ha : IsN w Z a m) (hb : IsN w Y b n) (hla : (limbs m).length ≤ 100000000000) (hlb : (limbs n).length ≤ 100000000000) :
  Calls Tryz.prog 255 #[a, b, .func (.func 256) #[.int .i64 (s : Int)] #[]] w fun e w' => ∃ v, e = .returned (.tuple #[v, .int .i64 0]) ∧ IsN w' (new w.heap.size) v (m * n) ∧ Below w.heap.size w w' := by
 have E := ha
 have F := hb
 obtain ⟨A, G, rfl, ha⟩ := ha
 obtain ⟨B, H, rfl, hb⟩ := hb
 obtain ⟨C, I⟩ : ∃ C, C = (limbs m).length := ⟨_, rfl⟩
 obtain ⟨D, J⟩ : ∃ D, D = (limbs n).length := ⟨_, rfl⟩
 rw [← I] at E ⊢
 rw [← J] at F ⊢
 have L := hid (make_any s hs hs2 _ m n rfl E F (by omega) (by omega))
 clear ha hb I J
 have O : ∀ w, (Instr.index 284 (.agg #[.slice A C G, .slice B D H]) (.int .i64 0)).run Tryz.prog w = .ok (.slice A C G) w := fun _ => by kernel_rfl
 have P : ∀ w, (Instr.index 284 (.agg #[.slice A C G, .slice B D H]) (.int .i64 1)).run Tryz.prog w = .ok (.slice B D H) w := fun _ => by kernel_rfl
 go_enter Tryz.func255, Tryz.ntmps255
 go_wp2
 go_loop [14] (fun i => i = .int .i64 0 ∨ i = .int .i64 1 ∨ i = .int .i64 2) (fun i => 2 - (intOf i).toNat)
 case atStart => exact .inl rfl
 case round =>
  rcases hrel with rfl | rfl | rfl
  · go_wp2_with fail
    refine (check_goodN E).mono ?_
    rintro e K ⟨rfl, rfl⟩
    go_wp2
    go_round
    case rel => exact .inr (.inl rfl)
    case measure => simp [intOf]
  · go_wp2_with fail
    refine (check_goodN F).mono ?_
    rintro e K ⟨rfl, rfl⟩
    go_wp2
    go_round
    case rel => exact .inr (.inr rfl)
    case measure => simp [intOf]
  · go_wp2_with fail
    refine L.out.mono ?_
    rintro e K ⟨v, rfl, M, N⟩
    go_wp2
    go_ret2
    exact ⟨v, rfl, M, N⟩
theorem mul_good {w : World} {b : Value} {n : Nat} (ha : IsN w Z a m) (hb : IsN w Y b n) (hla : (limbs m).length ≤ 100000000000) (hlb : (limbs n).length ≤ 100000000000) :
  Calls Tryz.prog 228 #[a, b] w fun e w' => ∃ v, e = .returned (.tuple #[v, .int .i64 0]) ∧ IsN w' (new w.heap.size) v (m * n) ∧ Below w.heap.size w w' := by
 have H := hid (checked_split 8 (by omega) (by omega) ha hb hla hlb)
 clear ha hb
 go_enter Tryz.func228, Tryz.ntmps228
 go_wp2_with fail
 refine H.out.mono ?_
 rintro e D ⟨v, rfl, B, C⟩
 go_wp2
 go_ret2
 exact ⟨v, rfl, B, C⟩
def bval : List Nat → Nat
 | [] => 0
 | b :: t => b + 2 * bval t
theorem bval_append (l r : List Nat) : bval (l ++ r) = bval l + 2 ^ l.length * bval r := by
 induction l with
 | nil => simp [bval]
 | cons b t ih =>
   rw [List.cons_append, bval, bval, ih, List.length_cons, Nat.pow_succ]
   grind
theorem bval_lt (l : List Nat) (h : ∀ x ∈ l, x ≤ 1) : bval l < 2 ^ l.length := by
 induction l with
 | nil => simp [bval]
 | cons b t ih =>
   have A := ih (fun x hx => h x (List.mem_cons_of_mem _ hx))
   have B := h b (List.mem_cons_self ..)
   rw [bval, List.length_cons, Nat.pow_succ]
   omega
theorem bval_take_succ {l : List Nat} {k : Nat} (h : k < l.length) : bval (l.take (k + 1)) = bval (l.take k) + 2 ^ k * l[k] := by
 rw [List.take_succ_eq_append_getElem h, bval_append, List.length_take, Nat.min_eq_left (by omega)]
 simp [bval]
def Bits (w : World) (v : Value) (bs : List Nat) : Prop := ∃ A c, v = .slice A bs.length c ∧ bs.length ≤ c ∧ c ≤ 9223372036854775807 ∧ (∀ x ∈ bs, x ≤ 1) ∧
 (0 < bs.length → ∃ b o, A = some ⟨b, o, none⟩ ∧ b < w.heap.size ∧ ∀ j (hj : j < bs.length), w.cell? ⟨b, o + j, none⟩ = some (.int .i64 (bs[j] : Int)))
structure FromI (bs : List Nat) (k : Nat) (ws : List Nat) : Prop where
 small : Small ws
 len : ws.length = (k + 63) / 64
 val : val ws = bval (bs.take k)
structure FromJ (bs : List Nat) (k : Nat) (ws : List Nat) : Prop where
 small : Small ws
 len : ws.length = k / 64 + 1
 val : val ws = bval (bs.take k)
theorem FromI.more {k : Nat} (h : FromI bs k ws) (hk : k % 64 = 0) : FromJ bs k (ws ++ [0]) := by
 refine ⟨h.small.append (Small.cons (by omega) Small.nil), ?_, ?_⟩
 · rw [List.length_append, h.len, List.length_singleton]
   omega
 · rw [val_append, h.val]
   simp [Go.Proofs.YtdncgncijbnjpaaGreat.val]
theorem pow_split (k : Nat) : 2 ^ k = 18446744073709551616 ^ (k / 64) * 2 ^ (k % 64) := by
 rw [W_pow, ← Nat.pow_add, Nat.div_add_mod]
theorem FromJ.bound {k : Nat} (h : FromJ bs k ws) (hk : k < bs.length) (h1 : ∀ x ∈ bs, x ≤ 1) (hq : k / 64 < ws.length) : ws[k / 64] + 2 ^ (k % 64) < 18446744073709551616 := by
 have e := val_set ws (k / 64) 0 hq
 rw [Nat.mul_zero, Nat.add_zero, h.val] at e
 have l := bval_lt (bs.take k) (fun x hx => h1 x (List.mem_of_mem_take hx))
 rw [List.length_take, Nat.min_eq_left (by omega), pow_split] at l
 have A : 18446744073709551616 ^ (k / 64) * ws[k / 64] < 18446744073709551616 ^ (k / 64) * 2 ^ (k % 64) := by omega
 have B := Nat.lt_of_mul_lt_mul_left A
 have C : 2 ^ (k % 64) ≤ 2 ^ 63 := Nat.pow_le_pow_right (by omega) (by omega)
 omega
theorem FromJ.one {k : Nat} (h : FromJ bs k ws) (hk : k < bs.length) (h1 : ∀ x ∈ bs, x ≤ 1) (hb : bs[k] = 1) (hq : k / 64 < ws.length) : FromI bs (k + 1) (ws.set (k / 64) (ws[k / 64] + 2 ^ (k % 64))) := by
 refine ⟨small_set h.small _ _ (h.bound hk h1 hq), by rw [List.length_set, h.len]; omega, ?_⟩
 have e := val_set ws (k / 64) (ws[k / 64] + 2 ^ (k % 64)) hq
 rw [Nat.mul_add, ← pow_split, h.val] at e
 rw [bval_take_succ hk, hb, Nat.mul_one]
 omega
end Go.Proofs.YtdncgncijbnjpaaGreat
