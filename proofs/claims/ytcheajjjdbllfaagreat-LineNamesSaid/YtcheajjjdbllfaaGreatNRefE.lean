/- The contracts of mul.checked, Mul, School and Split. -/
import Derived.RegionTactic
import Derived.ChangeAlike
import Derived.BigRegion
import Derived.RangeFuncBox
import Derived.Test.YtcheajjjdbllfaaGreatNClone
import Derived.Test.YtcheajjjdbllfaaGreatNRefA
import Derived.Test.YtcheajjjdbllfaaGreatNRefM
import Derived.Test.YtcheajjjdbllfaaGreatNNatE
set_option linter.unusedVariables false
set_option linter.unusedSimpArgs false
set_option maxRecDepth 100000
set_option maxHeartbeats 40000000
namespace Go.Proofs.YtcheajjjdbllfaaGreat
open Go.Lib (hid)
open Go.RowKit
variable {A B : Option Addr} {D Q R R' bs qs ws : List Nat} {L M P V X a b c cD cR carry d g i j less' m o q r rb ro second third under v x y : Nat} {Z Zd : Zone} {w w' : World}
theorem U64s.drop {l : List Nat} (h : U64s w Z A c l) {k : Nat} (hk : k ≤ l.length) :
  U64s w Z (if c = k then A else A.map (·.add k)) (c - k) (l.drop k) := by
 have hcap := h.cap
 have hmax := h.max
 refine ⟨h.small.drop k, by rw [List.length_drop]; omega, by omega, fun hA => ?_, fun h0 => ?_⟩
 · split at hA
   · omega
   · cases A with
     | none => have := h.nul rfl; omega
     | some a => cases hA
 · have hkl : k < l.length := by simp at h0; omega
   obtain ⟨b, o, rfl, hb, hf, hc⟩ := h.row (by simp; omega)
   rw [if_neg (by omega)]
   refine ⟨b, o + k, by simp [Addr.add_lit], hb, fun hs j => by rw [Nat.add_assoc]; exact hf hs _, fun j u hu => ?_⟩
   rw [Nat.add_assoc]
   exact hc _ u (by rw [← hu, List.map_drop, List.getElem?_drop])
theorem own_form {base : Nat} {e : TypeId} {n : Nat} {xs : List Value} (h : w.ownsRow base e 1 (.slice A n c) n xs) (hn : 0 < n) : ∃ g, A = some ⟨g, 0, none⟩ ∧ base ≤ g := by
 rcases h.2 with ⟨_, h0⟩ | ⟨g, cap, cur, e1, hb, _⟩
 · omega
 · injection e1 with e1
   exact ⟨g, e1, hb⟩
def downO (n d : Nat) (l : List Nat) (k : Nat) : List Nat := (List.range k).map (fun i => d / 18446744073709551616 ^ i % 18446744073709551616) ++ l.drop k
theorem downO_length {n : Nat} {l : List Nat} {k : Nat} (hk : k ≤ l.length) : (downO n d l k).length = l.length := by simp [downO]; omega
theorem downO_at {n : Nat} {l : List Nat} {k : Nat} (hk : k ≤ j) : (downO n d l k)[j]? = l[j]? := by
 unfold downO
 rw [List.getElem?_append_right (by simp; omega), List.getElem?_drop]
 simp [show k + (j - k) = j by omega]
theorem downO_step {n : Nat} {l : List Nat} {k : Nat} (hk : k < l.length) : (downO n d l k).set k (d / 18446744073709551616 ^ k % 18446744073709551616) = downO n d l (k + 1) := by
 unfold downO
 rw [List.set_append_right _ _ (by simp)]
 simp only [List.length_map, List.length_range, Nat.sub_self]
 rw [List.drop_eq_getElem_cons hk, List.set_cons_zero, List.range_succ]
 simp
theorem val_digits (d k : Nat) : val ((List.range k).map (fun i => d / 18446744073709551616 ^ i % 18446744073709551616)) = d % 18446744073709551616 ^ k := by
 induction k with
 | zero => simp [val, Nat.mod_one]
 | succ k ih =>
   rw [List.range_succ, List.map_append, val_append, ih]
   simp only [List.map_cons, List.map_nil, val, List.length_map, List.length_range, Nat.mul_zero, Nat.add_zero]
   rw [Nat.pow_succ, Nat.mod_mul]
theorem down_limb (n q r i : Nat) (hr : r < 64) : n / 2 ^ (64 * q + r) / 18446744073709551616 ^ i % 18446744073709551616 =
  (limbs n)[q + i]?.getD 0 / 2 ^ r ||| (limbs n)[q + i + 1]?.getD 0 * 2 ^ (64 - r) % 18446744073709551616 := by
 rw [limb_get, limb_get]
 have e1 : n / 2 ^ (64 * q + r) / 18446744073709551616 ^ i = n / 18446744073709551616 ^ (q + i) / 2 ^ r := by
  rw [W_pow, W_pow, Nat.div_div_eq_div_mul, Nat.div_div_eq_div_mul, ← Nat.pow_add, ← Nat.pow_add]
  congr 2
  omega
 have e2 : n / 18446744073709551616 ^ (q + i + 1) = n / 18446744073709551616 ^ (q + i) / 18446744073709551616 := by rw [Nat.pow_succ, Nat.div_div_eq_div_mul]
 rw [e1, e2]
 generalize n / 18446744073709551616 ^ (q + i) = m
 have hw : (18446744073709551616 : Nat) = 2 ^ r * 2 ^ (64 - r) := by rw [← Nat.pow_add, show r + (64 - r) = 64 by omega]
 have h2 : 0 < 2 ^ r := Nat.pow_pos (by omega)
 have h3 : 0 < 2 ^ (64 - r) := Nat.pow_pos (by omega)
 have a1 : m % 18446744073709551616 / 2 ^ r = m / 2 ^ r % 2 ^ (64 - r) := by
  rw [hw, Nat.mod_mul_right_div_self]
 have a2 : (m / 18446744073709551616 % 18446744073709551616) * 2 ^ (64 - r) % 18446744073709551616 = 2 ^ (64 - r) * (m / 18446744073709551616 % 2 ^ r) := by
  have : (18446744073709551616 : Nat) = 2 ^ (64 - r) * 2 ^ r := by rw [hw, Nat.mul_comm]
  rw [Nat.mul_comm (m / 18446744073709551616 % 18446744073709551616)]
  conv => lhs; rw [show (2 ^ (64 - r) * (m / 18446744073709551616 % 18446744073709551616) % 18446744073709551616) = 2 ^ (64 - r) * (m / 18446744073709551616 % 18446744073709551616) % (2 ^ (64 - r) * 2 ^ r) from by rw [← this]]
  rw [Nat.mul_mod_mul_left]
  congr 1
  rw [hw, Nat.mod_mul_right_mod]
 rw [a1, a2, Nat.or_comm, ← Nat.two_pow_add_eq_or_of_lt (Nat.mod_lt _ h3)]
 have e3 : m / 18446744073709551616 = m / 2 ^ r / 2 ^ (64 - r) := by rw [hw, Nat.div_div_eq_div_mul]
 rw [e3]
 generalize m / 2 ^ r = p
 have hw' : (18446744073709551616 : Nat) = 2 ^ (64 - r) * 2 ^ r := by rw [hw, Nat.mul_comm]
 rw [hw', Nat.mod_mul]
 omega
theorem down_done {n : Nat} {l' : List Nat} (hl : l' = (limbs n).drop q) : Small (downO n (n / 2 ^ (64 * q + r)) l' l'.length) ∧ val (downO n (n / 2 ^ (64 * q + r)) l' l'.length) = n / 2 ^ (64 * q + r) := by
 unfold downO
 rw [List.drop_length, List.append_nil, val_digits]
 refine ⟨fun x hx => ?_, Nat.mod_eq_of_lt ?_⟩
 · obtain ⟨i, _, rfl⟩ := List.mem_map.1 hx
   exact Nat.mod_lt _ (by omega)
 · have h1 := lt_pow_len n
   rw [hl, List.length_drop]
   rw [Nat.div_lt_iff_lt_mul (Nat.pow_pos (by omega))]
   refine Nat.lt_of_lt_of_le h1 ?_
   rw [W_pow, W_pow, ← Nat.pow_add]
   exact Nat.pow_le_pow_right (by omega) (by omega)
theorem down_good {a : Value} {n : Nat} (ha : IsN w Z a n) (hl : (limbs n).length ≤ 900000000000) (hb : b ≤ 65536) :
  Calls Tryz.prog 156 #[a, .int .i64 (b : Int)] w fun e w' => ∃ v, e = .returned (.tuple #[v, .int .i64 0]) ∧ IsN w' (new w.heap.size) v (n / 2 ^ b) ∧ Below w.heap.size w w' := by
 obtain ⟨A, c, rfl, ha⟩ := ha
 obtain ⟨q, hq⟩ : ∃ q : Nat, q = b / 64 := ⟨_, rfl⟩
 obtain ⟨r, hr⟩ : ∃ r : Nat, r = b % 64 := ⟨_, rfl⟩
 have hbq : b = 64 * q + r := by omega
 have hr64 : r < 64 := by omega
 have hq64 : q ≤ 1024 := by omega
 have eq' : (b : Int) / 64 = (q : Int) := by omega
 have er' : (b : Int) % 64 = (r : Int) := by omega
 have Hbq := hid hbq
 clear hq hr hbq
 obtain ⟨L, hL⟩ : ∃ L : Nat, L = (limbs n).length := ⟨_, rfl⟩
 have HL := hid hL
 have hL1 : L ≤ 900000000000 := by omega
 have hcapL : L ≤ c := by rw [hL]; exact ha.cap
 have hmaxL := ha.max
 have hask := asked_good ha hb
 obtain ⟨k, hk⟩ : ∃ k : Nat, k = min q L := ⟨_, rfl⟩
 have hkL : k ≤ L := by omega
 have hmin : min (q : Int) (L : Int) = (k : Int) := by omega
 have hdrop := ha.drop (k := k) (by omega)
 have hdq : (limbs n).drop k = (limbs n).drop q := by
  rcases Nat.le_total q L with h | h
  · rw [hk, Nat.min_eq_left h]
  · rw [hk, Nat.min_eq_right h, hL, List.drop_length, List.drop_eq_nil_of_le (by omega)]
 obtain ⟨l', hl'⟩ : ∃ l', l' = (limbs n).drop k := ⟨_, rfl⟩
 rw [← hl'] at hdrop
 have hN : L - k = l'.length := by rw [hl', List.length_drop, hL]
 have Hl' := hid (hl'.trans hdq)
 rw [← hL] at hask ⊢
 obtain ⟨Hask, HN⟩ := hid2 hask hN
 have hN1 : l'.length ≤ 900000000000 := by omega
 clear hL hask hk hdq hl' hN ha
 by_cases hck : c = k
 · rw [if_pos hck] at hdrop
   have hc0 : l'.length = 0 := by have := HN.out; omega
   have hcl := clone_any (n := 0) hc0.symm hdrop (by omega)
   rw [show c - k = 0 by omega] at hcl
   have hl0 : l' = [] := List.length_eq_zero_iff.1 hc0
   obtain ⟨_, hv⟩ := down_done (r := r) Hl'.out
   rw [hl0] at hv hcl
   obtain ⟨Hv, Hcl⟩ := hid2 hv hcl
   clear hv hcl hc0 hdrop
   subst hl0 hck
   go_enter Tryz.func156, Tryz.ntmps156
   go_wp2_with (first | (go_at_call 163; refine Hask.out.mono ?_; rintro e w' ⟨rfl, rfl⟩))
   refine Hcl.out.mono ?_
   rintro e w1 ⟨v, rfl, hown, hbel1⟩
   obtain ⟨A2, c2, rfl⟩ := own_shape hown
   have hu := isU_after (B := w.heap.size) (l := []) Small.nil rfl hown (Nat.le_refl _)
   go_wp2
   refine wp_loop_rounds 1 ?_
   rw [rounds_succ]
   go_wp2_with (go_at_call 47; refine (trim_len hu rfl).mono ?_; rintro e w' ⟨rfl, rfl⟩)
   go_ret2
   rw [Hbq.out]
   exact ⟨_, rfl, isN_trimU (by simpa [downO, val] using Hv.out) hu, hbel1⟩
 · rw [if_neg hck] at hdrop
   obtain ⟨N, hNN⟩ : ∃ N, N = L - k := ⟨_, rfl⟩
   have hcl := clone_any (n := N) (by rw [hNN]; exact HN.out) hdrop (by omega)
   have hLN : L - k = N := hNN.symm
   have Hcl := hid hcl
   have hN2 : N ≤ 900000000000 := by omega
   have HNl := hid (show N = l'.length by rw [hNN]; exact HN.out)
   clear hcl hdrop hNN
   go_enter Tryz.func156, Tryz.ntmps156
   go_wp2_with (first | (go_at_call 163; refine Hask.out.mono ?_; rintro e w' ⟨rfl, rfl⟩))
   refine Hcl.out.mono ?_
   rintro e w1 ⟨v, rfl, hown, hbel1⟩
   obtain ⟨A2, c2, rfl⟩ := own_shape hown
   go_wp2
   go_loopw [25] (fun i wr => ∃ j : Nat, j ≤ N ∧ i = .int .i64 j ∧ wr.ownsRow w.heap.size 76 1 (.slice A2 N c2) N ((downO n (n / 2 ^ b) l' j).map fun x : Nat => Value.int .u64 (x : Int)) ∧ Below w.heap.size w wr) (fun i _ => N - (intOf i).toNat)
   case atStart => exact ⟨0, Nat.zero_le _, rfl, by simpa [downO] using hown, hbel1⟩
   case round =>
    obtain ⟨j, hj, rfl, hown, hbel⟩ := hrel
    by_cases hlt : j < N
    · obtain ⟨g, rfl, hgb⟩ := own_form hown (by omega)
      have hjl : j < l'.length := by rw [← HNl.out]; exact hlt
      have hb2 := Hbq.out
      have hlimb := down_limb n q r j hr64
      have g0 : (limbs n)[q + j]? = l'[j]? := by rw [Hl'.out, List.getElem?_drop]
      have g1 : (limbs n)[q + j]?.getD 0 = l'[j] := by rw [g0]; simp [hjl]
      have g2 : (limbs n)[q + j + 1]?.getD 0 = l'[j + 1]?.getD 0 := by rw [Hl'.out, List.getElem?_drop, Nat.add_assoc]
      rw [g1, g2, ← hb2] at hlimb
      have hat := downO_at (n := n) (d := n / 2 ^ b) (l := l') (k := j) (j := j) (Nat.le_refl _)
      have hcell := hown.cellAt j (by omega)
      rw [List.getElem?_map, hat, List.getElem?_eq_getElem hjl] at hcell
      have hcell' : wr.cell? ⟨g, j, none⟩ = some (.int .u64 (l'[j] : Int)) := hcell
      have hfr := hown.frozenAt j
      have hst := downO_step (n := n) (d := n / 2 ^ b) hjl
      rw [hlimb] at hst
      have hxl : l'[j] < 18446744073709551616 := by have h1 : Small l' := by (rw [Hl'.out]; exact (small_limbs n).drop q)
                                                    exact h1.get hjl
      clear hcell hat g0 g1 g2 hlimb hb2
      generalize l'[j] = x at *
      obtain ⟨y, hy⟩ : ∃ y, y = x / 2 ^ r := ⟨_, rfl⟩
      have hyl : y < 18446744073709551616 := by rw [hy]; exact Nat.lt_of_le_of_lt (Nat.div_le_self _ _) hxl
      have hyi : (x : Int) / 2 ^ r = (y : Int) := by rw [hy]; simp
      rw [← hy] at hst
      have o1 := hown.stored j (.int .u64 (y : Int))
      by_cases hn1 : j + 1 < N
      · have hjl1 : j + 1 < l'.length := by rw [← HNl.out]; exact hn1
        have hat := downO_at (n := n) (d := n / 2 ^ b) (l := l') (k := j) (j := j + 1) (by omega)
        have hcell := hown.cellAt (j + 1) (by omega)
        rw [List.getElem?_map, hat, List.getElem?_eq_getElem hjl1] at hcell
        have hcell2 : wr.cell? ⟨g, j + 1, none⟩ = some (.int .u64 (l'[j + 1] : Int)) := hcell
        have e2 : l'[j + 1]?.getD 0 = l'[j + 1] := by simp [hjl1]
        rw [e2] at hst
        clear hcell hat e2
        generalize l'[j + 1] = x2 at *
        obtain ⟨t, ht⟩ : ∃ t, t = 64 - r := ⟨_, rfl⟩
        have hti : (64 : Int) - (r : Int) = (t : Int) := by omega
        rw [← ht] at hst
        obtain ⟨z, hz⟩ : ∃ z, z = x2 * 2 ^ t % 18446744073709551616 := ⟨_, rfl⟩
        have hzl : z < 18446744073709551616 := by rw [hz]; exact Nat.mod_lt _ (by omega)
        have hzi : IntKind.u64.wrap ((x2 : Int) * 2 ^ t) = (z : Int) := by rw [hz, IntKind.wrap_u64]; simp
        rw [← hz] at hst
        have hbits := bits_or_u64_nat y z hyl hzl
        have Hst := hid hst
        have ht64 : t ≤ 64 := by omega
        have ht0 : 0 < t := by omega
        clear hst hz ht hy
        go_wp2
        have hown2 := o1.1
        have hbel2 : Below w.heap.size w (wr.setCell ⟨g, j, none⟩ (.int .u64 (y : Int))) := hbel.setCell (p := ⟨g, j, none⟩) hgb _
        have hj0 : (downO n (n / 2 ^ b) l' j).length = N := by simpa using hown.1
        have c1 : (wr.setCell ⟨g, j, none⟩ (.int .u64 (y : Int))).cell? ⟨g, j, none⟩ = some (.int .u64 (y : Int)) := by
         rw [hown2.cellAt j (by omega)]
         simp [hj0, hlt]
        have c2' : (wr.setCell ⟨g, j, none⟩ (.int .u64 (y : Int))).cell? ⟨g, j + 1, none⟩ = some (.int .u64 (x2 : Int)) := by
         rw [World.cell?_setCell_other _ _ _ _ (by simp)]
         exact hcell2
        have f1 := hown2.frozenAt j
        clear hcell' hcell2 hfr hown o1 hbel hj0
        generalize wr.setCell ⟨g, j, none⟩ (.int .u64 (y : Int)) = W2 at *
        go_region
        all_goals
         go_wp2
         have o2 := hown2.stored j (.int .u64 ((y ||| z : Nat) : Int))
         go_roundw
         case rel =>
          refine ⟨j + 1, by omega, by go_num, ?_, (hbel2.setCell (p := ⟨g, j, none⟩) hgb _).drew⟩
          rw [← Hst.out, List.map_set]
          have o3 := o2.1
          rw [List.set_set] at o3
          exact o3.drew
         case measure => simp [intOf]; omega
      · have e2 : l'[j + 1]?.getD 0 = 0 := by rw [List.getElem?_eq_none (by rw [← HNl.out]; omega)]; rfl
        rw [e2] at hst
        simp only [Nat.zero_mul, Nat.zero_mod, Nat.or_zero] at hst
        have Hst := hid hst
        clear hst hy e2
        go_wp2
        go_roundw
        case rel =>
         refine ⟨j + 1, by omega, by go_num, ?_, hbel.setCell (p := ⟨g, j, none⟩) hgb _⟩
         rw [← Hst.out, List.map_set]
         exact o1.1
        case measure => simp [intOf]; omega
    · obtain rfl : j = N := by omega
      obtain ⟨hsm, hv⟩ := down_done (n := n) (q := q) (r := r) Hl'.out
      rw [← HNl.out] at hsm hv
      rw [← Hbq.out] at hsm hv
      have hlen : j = (downO n (n / 2 ^ b) l' j).length := by rw [downO_length (by rw [← HNl.out]; exact Nat.le_refl _), ← HNl.out]
      have hu := isU_after (B := w.heap.size) hsm hlen hown (Nat.le_refl _)
      obtain ⟨Hv, Hlen⟩ := hid2 hv hlen
      clear hv hlen
      go_wp2_with (go_at_call 47; refine (trim_len hu Hlen.out).mono ?_; rintro e w' ⟨rfl, rfl⟩)
      go_ret2
      exact ⟨_, rfl, isN_trimU Hv.out hu, hbel⟩
theorem halfL (n b : Nat) : n / 2 ^ b = 2 * (n / 2 ^ (b + 1)) + n / 2 ^ b % 2 := by
 rw [Nat.pow_succ, ← Nat.div_div_eq_div_mul]
 omega
theorem word_of {l : List Nat} (hs : Small l) (hq : q < l.length) : l[q] = val l / 18446744073709551616 ^ q % 18446744073709551616 := by
 have h := val_take_drop l q
 have hl : (l.take q).length = q := by rw [List.length_take]; omega
 have hlt := val_lt (l := l.take q) (hs.take q)
 rw [hl] at h hlt
 have hp : 0 < 18446744073709551616 ^ q := Nat.pow_pos (by omega)
 rw [← h, Nat.add_mul_div_left _ _ hp, Nat.div_eq_of_lt hlt, Nat.zero_add, List.drop_eq_getElem_cons hq]
 simp only [val]
 rw [Nat.add_mul_mod_self_left, Nat.mod_eq_of_lt (hs.get hq)]
structure LongI (m n L k : Nat) (qs : List Nat) (r : Nat) : Prop where
 len : qs.length = L
 small : Small qs
 rest : r = m / 2 ^ k % n
 eq : val qs = (m / 2 ^ k / n) * 2 ^ k
theorem LongI.start {n : Nat} (hn : 0 < n) : LongI m n L (size m) (List.replicate L 0) 0 := by
 have h0 := bit_beyond (n := m) (i := size m) (Nat.le_refl _)
 exact ⟨by simp, Small.replicate0 _, by rw [h0, Nat.zero_mod], by rw [h0, val_replicate0, Nat.zero_div, Nat.zero_mul]⟩
theorem LongI.low {n k : Nat} (h : LongI m n L (k + 1) qs r) (hn : 0 < n) (hlt : r * 2 + m / 2 ^ k % 2 < n) : LongI m n L k qs (r * 2 + m / 2 ^ k % 2) := by
 have h1 := halfL m k
 have h2 := Nat.div_add_mod (m / 2 ^ (k + 1)) n
 rw [← h.rest] at h2
 have e := h.eq
 have h3 : m / 2 ^ k = n * (2 * (m / 2 ^ (k + 1) / n)) + (r * 2 + m / 2 ^ k % 2) := by
  conv => lhs; rw [h1, ← h2]
  generalize m / 2 ^ (k + 1) / n = c
  grind
 refine ⟨h.len, h.small, ?_, ?_⟩
 · conv => rhs; rw [h3]
   rw [Nat.mul_add_mod, Nat.mod_eq_of_lt hlt]
 · have h4 : m / 2 ^ k / n = 2 * (m / 2 ^ (k + 1) / n) := by
    conv => lhs; rw [h3]
    rw [Nat.mul_add_div hn, Nat.div_eq_of_lt hlt, Nat.add_zero]
   rw [e, h4, Nat.pow_succ]
   grind
theorem LongI.bound {n k : Nat} (h : LongI m n L (k + 1) qs r) (hq : k / 64 < qs.length) :
  qs[k / 64] ||| 2 ^ (k % 64) = qs[k / 64] + 2 ^ (k % 64) ∧ qs[k / 64] + 2 ^ (k % 64) < 18446744073709551616 := by
 have hw := word_of h.small hq
 rw [h.eq] at hw
 obtain ⟨c, hc⟩ : ∃ c, c = m / 2 ^ (k + 1) / n := ⟨_, rfl⟩
 obtain ⟨e, he⟩ : ∃ e, e = k % 64 := ⟨_, rfl⟩
 have he64 : e < 64 := by omega
 have hk : k + 1 = (e + 1) + 64 * (k / 64) := by omega
 have hW : (18446744073709551616 : Nat) = 2 ^ (e + 1) * 2 ^ (63 - e) := by rw [← Nat.pow_add, show e + 1 + (63 - e) = 64 by omega]
 rw [← hc, hk, Nat.pow_add, ← Nat.mul_assoc, W_pow, Nat.mul_div_cancel _ (Nat.pow_pos (by omega))] at hw
 have hd : c * 2 ^ (e + 1) % 18446744073709551616 = 2 ^ (e + 1) * (c % 2 ^ (63 - e)) := by rw [hW, Nat.mul_comm c, Nat.mul_mod_mul_left]
 have hlt : c % 2 ^ (63 - e) < 2 ^ (63 - e) := Nat.mod_lt _ (Nat.pow_pos (by omega))
 have hor := or_low (2 ^ e) c (e + 1) (Nat.pow_lt_pow_right (by omega) (by omega)) (by omega)
 rw [← hw] at hor hd
 rw [← he]
 refine ⟨by rw [Nat.or_comm, hor, Nat.add_comm], ?_⟩
 have h5 : 2 ^ (e + 1) * (c % 2 ^ (63 - e) + 1) ≤ 2 ^ (e + 1) * 2 ^ (63 - e) := Nat.mul_le_mul_left _ hlt
 rw [← hW, Nat.mul_add, ← hd, Nat.mul_one, Nat.pow_succ] at h5
 have hp : 0 < 2 ^ e := Nat.pow_pos (by omega)
 omega
theorem LongI.high {n k : Nat} (h : LongI m n L (k + 1) qs r) (hn : 0 < n) (hge : n ≤ r * 2 + m / 2 ^ k % 2) (hq : k / 64 < qs.length) :
  LongI m n L k (qs.set (k / 64) (qs[k / 64] + 2 ^ (k % 64))) (r * 2 + m / 2 ^ k % 2 - n) := by
 have h1 := halfL m k
 have h2 := Nat.div_add_mod (m / 2 ^ (k + 1)) n
 have hr : r < n := by rw [h.rest]; exact Nat.mod_lt _ hn
 rw [← h.rest] at h2
 have e := h.eq
 obtain ⟨d, hd⟩ : ∃ d, d = r * 2 + m / 2 ^ k % 2 - n := ⟨_, rfl⟩
 have hdn : d < n := by omega
 have hdd : r * 2 + m / 2 ^ k % 2 = d + n := by omega
 have h3 : m / 2 ^ k = n * (2 * (m / 2 ^ (k + 1) / n) + 1) + d := by
  conv => lhs; rw [h1, ← h2]
  generalize m / 2 ^ (k + 1) / n = c
  generalize m / 2 ^ k % 2 = b at *
  grind
 have hset := val_set qs (k / 64) (qs[k / 64] + 2 ^ (k % 64)) hq
 obtain ⟨_, hb⟩ := h.bound hq
 rw [← hd]
 refine ⟨by rw [List.length_set, h.len], small_set h.small _ _ hb, ?_, ?_⟩
 · conv => rhs; rw [h3]
   rw [Nat.mul_add_mod, Nat.mod_eq_of_lt hdn]
 · have h4 : m / 2 ^ k / n = 2 * (m / 2 ^ (k + 1) / n) + 1 := by
    conv => lhs; rw [h3]
    rw [Nat.mul_add_div hn, Nat.div_eq_of_lt hdn, Nat.add_zero]
   have hp : 2 ^ k = 18446744073709551616 ^ (k / 64) * 2 ^ (k % 64) := by rw [W_pow, ← Nat.pow_add, Nat.div_add_mod]
   rw [Nat.mul_add, ← hp, e] at hset
   rw [h4]
   have h6 : (m / 2 ^ (k + 1) / n) * 2 ^ (k + 1) = 2 * (m / 2 ^ (k + 1) / n) * 2 ^ k := by rw [Nat.pow_succ]; grind
   rw [h6] at hset
   rw [Nat.add_mul, Nat.one_mul]
   omega
theorem LongI.done {n : Nat} (h : LongI m n L 0 qs r) : val qs = m / n ∧ r = m % n := by
 have e := h.eq
 have e2 := h.rest
 rw [Nat.pow_zero, Nat.div_one, Nat.mul_one] at e
 rw [Nat.pow_zero, Nat.div_one] at e2
 exact ⟨e, e2⟩
theorem sub_limb (hx : x < 18446744073709551616) (hy : y < 18446744073709551616) (hc : c ≤ 1) :
  ∃ v c', v = (x + 18446744073709551616 - y - c) % 18446744073709551616 ∧ c' = (if x < y + c then 1 else 0) ∧ v < 18446744073709551616 ∧ c' ≤ 1 ∧ v + y + c = x + 18446744073709551616 * c' := by
 refine ⟨_, _, rfl, rfl, Nat.mod_lt _ (by omega), by split <;> omega, ?_⟩
 split <;> omega
structure TakeI (R0 D : List Nat) (q a i : Nat) (R : List Nat) (carry less : Nat) : Prop where
 len : R.length = R0.length
 small : Small R
 word : carry < 18446744073709551616
 one : less ≤ 1
 same : ∀ j (h : j < R.length) (h' : j < R0.length), a + i ≤ j → R[j] = R0[j]
 eq : val R + q * val (D.take i) * 18446744073709551616 ^ a = val R0 + (carry + less) * 18446744073709551616 ^ (a + i)
theorem TakeI.start {R0 : List Nat} (hs : Small R0) : TakeI R0 D q a 0 R0 0 0 :=
 ⟨rfl, hs, by omega, by omega, fun _ _ _ _ => rfl, by simp [val]⟩
theorem val_take_succ {l : List Nat} (h : i < l.length) : val (l.take (i + 1)) = val (l.take i) + 18446744073709551616 ^ i * l[i] := by
 rw [List.take_succ_eq_append_getElem h, val_append, List.length_take, Nat.min_eq_left (by omega)]
 simp [val]
theorem TakeI.step {R0 : List Nat} {less : Nat} (h : TakeI R0 D q a i R carry less) (hi : i < D.length) (hp : a + i < R.length) (hv : v < 18446744073709551616) (hl' : less' ≤ 1)
  (hc : (q * D[i] + carry) / 18446744073709551616 < 18446744073709551616)
  (he : v + (q * D[i] + carry) % 18446744073709551616 + less = R[a + i] + 18446744073709551616 * less') :
  TakeI R0 D q a (i + 1) (R.set (a + i) v) ((q * D[i] + carry) / 18446744073709551616) less' := by
 refine ⟨by simpa using h.len, small_set h.small _ _ hv, hc, hl', fun j hj hj' hle => ?_, ?_⟩
 · rw [List.getElem_set_ne (by omega)]
   exact h.same j (by simpa using hj) hj' (by omega)
 · have e := h.eq
   have hs := val_set R (a + i) v hp
   rw [val_take_succ hi]
   generalize D[i] = y at *
   generalize R[a + i] = x at *
   have hd := Nat.div_add_mod (q * y + carry) 18446744073709551616
   generalize (q * y + carry) / 18446744073709551616 = c1 at *
   generalize (q * y + carry) % 18446744073709551616 = lo at *
   rw [show a + (i + 1) = a + i + 1 by omega, Nat.pow_succ]
   rw [Nat.pow_add] at *
   generalize val (R.set (a + i) v) = V1 at *
   generalize val (D.take i) = T at *
   generalize val R = V at *
   generalize val R0 = V0 at *
   generalize 18446744073709551616 ^ a = pa at *
   generalize 18446744073709551616 ^ i = pi at *
   have e1 : (v + lo + less) * (pa * pi) = (x + 18446744073709551616 * less') * (pa * pi) := by rw [he]
   have e2 : (18446744073709551616 * c1 + lo) * (pa * pi) = (q * y + carry) * (pa * pi) := by rw [hd]
   grind
theorem TakeI.last {R0 : List Nat} {less : Nat} (h : TakeI R0 D q a D.length R carry less) (hp : a + D.length < R.length) (hv : v < 18446744073709551616) (hl' : less' ≤ 1)
  (he : v + carry + less = R[a + D.length] + 18446744073709551616 * less') :
  (R.set (a + D.length) v).length = R0.length ∧ Small (R.set (a + D.length) v) ∧ (∀ j (h : j < (R.set (a + D.length) v).length) (h' : j < R0.length), a + D.length < j → (R.set (a + D.length) v)[j] = R0[j]) ∧
   val (R.set (a + D.length) v) + q * val D * 18446744073709551616 ^ a = val R0 + less' * 18446744073709551616 ^ (a + D.length + 1) := by
 refine ⟨by simpa using h.len, small_set h.small _ _ hv, fun j hj hj' hle => ?_, ?_⟩
 · rw [List.getElem_set_ne (by omega)]
   exact h.same j (by simpa using hj) hj' (by omega)
 · have e := h.eq
   rw [List.take_length] at e
   have hs := val_set R (a + D.length) v hp
   rw [Nat.pow_succ]
   generalize R[a + D.length] = x at *
   generalize val (R.set (a + D.length) v) = V1 at *
   generalize val R = V at *
   generalize val R0 = V0 at *
   generalize val D = T at *
   generalize 18446744073709551616 ^ (a + D.length) = p at *
   generalize 18446744073709551616 ^ a = pa at *
   have e1 : (v + carry + less) * p = (x + 18446744073709551616 * less') * p := by rw [he]
   grind
structure BackI (R0 D : List Nat) (a i : Nat) (R : List Nat) (carry : Nat) : Prop where
 len : R.length = R0.length
 small : Small R
 one : carry ≤ 1
 same : ∀ j (h : j < R.length) (h' : j < R0.length), a + i ≤ j → R[j] = R0[j]
 eq : val R + carry * 18446744073709551616 ^ (a + i) = val R0 + val (D.take i) * 18446744073709551616 ^ a
theorem BackI.start {R0 : List Nat} (hs : Small R0) : BackI R0 D a 0 R0 0 :=
 ⟨rfl, hs, by omega, fun _ _ _ _ => rfl, by simp [val]⟩
theorem BackI.step {R0 : List Nat} (h : BackI R0 D a i R carry) (hi : i < D.length) (hp : a + i < R.length) (hy : D[i] < 18446744073709551616) :
  BackI R0 D a (i + 1) (R.set (a + i) ((R[a + i] + D[i] + carry) % 18446744073709551616)) ((R[a + i] + D[i] + carry) / 18446744073709551616) := by
 have hx := h.small.get hp
 have h1 := h.one
 refine ⟨by simpa using h.len, small_set h.small _ _ (Nat.mod_lt _ (by omega)), by omega, fun j hj hj' hle => ?_, ?_⟩
 · rw [List.getElem_set_ne (by omega)]
   exact h.same j (by simpa using hj) hj' (by omega)
 · have e := h.eq
   have hs := val_set R (a + i) ((R[a + i] + D[i] + carry) % 18446744073709551616) hp
   rw [val_take_succ hi]
   generalize D[i] = y at *
   generalize R[a + i] = x at *
   have hd := Nat.div_add_mod (x + y + carry) 18446744073709551616
   generalize (x + y + carry) / 18446744073709551616 = c1 at *
   generalize (x + y + carry) % 18446744073709551616 = v at *
   rw [show a + (i + 1) = a + i + 1 by omega, Nat.pow_succ]
   rw [Nat.pow_add] at *
   generalize val (R.set (a + i) v) = V1 at *
   generalize val (D.take i) = T at *
   generalize val R = V at *
   generalize val R0 = V0 at *
   generalize 18446744073709551616 ^ a = pa at *
   generalize 18446744073709551616 ^ i = pi at *
   have e2 : (18446744073709551616 * c1 + v) * (pa * pi) = (x + y + carry) * (pa * pi) := by rw [hd]
   grind
theorem BackI.last {R0 : List Nat} (h : BackI R0 D a D.length R carry) (hp : a + D.length < R.length) :
  (R.set (a + D.length) ((R[a + D.length] + carry) % 18446744073709551616)).length = R0.length ∧ Small (R.set (a + D.length) ((R[a + D.length] + carry) % 18446744073709551616)) ∧
   (∀ j (h : j < (R.set (a + D.length) ((R[a + D.length] + carry) % 18446744073709551616)).length) (h' : j < R0.length), a + D.length < j → (R.set (a + D.length) ((R[a + D.length] + carry) % 18446744073709551616))[j] = R0[j]) ∧
   (R[a + D.length] + carry) / 18446744073709551616 ≤ 1 ∧
   val (R.set (a + D.length) ((R[a + D.length] + carry) % 18446744073709551616)) + (R[a + D.length] + carry) / 18446744073709551616 * 18446744073709551616 ^ (a + D.length + 1) = val R0 + val D * 18446744073709551616 ^ a := by
 have hx := h.small.get hp
 have h1 := h.one
 refine ⟨by simpa using h.len, small_set h.small _ _ (Nat.mod_lt _ (by omega)), fun j hj hj' hle => ?_, by omega, ?_⟩
 · rw [List.getElem_set_ne (by omega)]
   exact h.same j (by simpa using hj) hj' (by omega)
 · have e := h.eq
   rw [List.take_length] at e
   have hs := val_set R (a + D.length) ((R[a + D.length] + carry) % 18446744073709551616) hp
   rw [Nat.pow_succ]
   generalize R[a + D.length] = x at *
   have hd := Nat.div_add_mod (x + carry) 18446744073709551616
   generalize (x + carry) / 18446744073709551616 = c1 at *
   generalize (x + carry) % 18446744073709551616 = v at *
   generalize val (R.set (a + D.length) v) = V1 at *
   generalize val R = V at *
   generalize val R0 = V0 at *
   generalize val D = T at *
   generalize 18446744073709551616 ^ (a + D.length) = p at *
   generalize 18446744073709551616 ^ a = pa at *
   have e2 : (18446744073709551616 * c1 + v) * p = (x + carry) * p := by rw [hd]
   grind
theorem val_lt_of_zero {l : List Nat} (hs : Small l) {k : Nat} (hz : ∀ j (h : j < l.length), k ≤ j → l[j] = 0) : val l < 18446744073709551616 ^ k := by
 have h := val_take_drop l k
 have hd : val (l.drop k) = 0 := by
  have : l.drop k = List.replicate (l.drop k).length 0 := by
   refine List.eq_replicate_iff.2 ⟨rfl, fun b hb => ?_⟩
   obtain ⟨j, hj, rfl⟩ := List.getElem_of_mem hb
   rw [List.getElem_drop]
   exact hz _ _ (by omega)
  rw [this, val_replicate0]
 rw [hd, Nat.mul_zero, Nat.add_zero] at h
 rw [← h]
 refine Nat.lt_of_lt_of_le (val_lt (hs.take k)) (Nat.pow_le_pow_right (by omega) (by rw [List.length_take]; omega))
theorem zero_of_val_lt {l : List Nat} (hs : Small l) {k : Nat} (hv : val l < 18446744073709551616 ^ k) : ∀ j (h : j < l.length), k ≤ j → l[j] = 0 := by
 intro j hj hk
 rw [word_of hs hj, Nat.div_eq_of_lt (Nat.lt_of_lt_of_le hv (Nat.pow_le_pow_right (by omega) hk))]
structure GiveI (X P top : Nat) (qn V : Nat) (much : Bool) : Prop where
 lt : V < top
 yes : much = true → X / P < qn ∧ V + qn * P = X + top
 no : much = false → qn = X / P ∧ V = X % P
theorem GiveI.taken {top less : Nat} (hP : 0 < P) (hq : X / P ≤ q) (hV : V < top) (hl : less ≤ 1) (he : V + q * P = X + less * top) : GiveI X P top q V (decide (0 < less)) := by
 have hdm := Nat.div_add_mod X P
 refine ⟨hV, fun hm => ?_, fun hm => ?_⟩
 · have : 0 < less := of_decide_eq_true hm
   obtain rfl : less = 1 := by omega
   rw [Nat.one_mul] at he
   refine ⟨?_, he⟩
   rw [Nat.div_lt_iff_lt_mul hP]
   omega
 · have : ¬ 0 < less := of_decide_eq_false hm
   obtain rfl : less = 0 := by omega
   rw [Nat.zero_mul, Nat.add_zero] at he
   have h1 : q ≤ X / P := by
    rw [Nat.le_div_iff_mul_le hP]
    omega
   obtain rfl : q = X / P := by omega
   refine ⟨rfl, ?_⟩
   rw [Nat.mul_comm] at he
   omega
theorem GiveI.back {top qn V' : Nat} (hP : 0 < P) (h : GiveI X P top qn V true) (hV : V' < top) (hc : c ≤ 1) (he : V' + c * top = V + P) : 1 ≤ qn ∧ GiveI X P top (qn - 1) V' (!decide (0 < c)) := by
 obtain ⟨h1, h2⟩ := h.yes rfl
 have hq : 1 ≤ qn := Nat.lt_of_le_of_lt (Nat.zero_le _) h1
 obtain ⟨m, rfl⟩ : ∃ m, qn = m + 1 := ⟨qn - 1, by omega⟩
 rw [Nat.add_mul, Nat.one_mul] at h2
 refine ⟨hq, hV, fun hm => ?_, fun hm => ?_⟩
 · have : ¬ 0 < c := by simpa using hm
   obtain rfl : c = 0 := by omega
   rw [Nat.zero_mul] at he
   refine ⟨?_, by show V' + m * P = X + top; omega⟩
   show X / P < m
   rw [Nat.div_lt_iff_lt_mul hP]
   omega
 · have : 0 < c := by simpa using hm
   obtain rfl : c = 1 := by omega
   rw [Nat.one_mul] at he
   have h3 : V' + m * P = X := by omega
   have h4 : m ≤ X / P := by rw [Nat.le_div_iff_mul_le hP]; omega
   obtain rfl : m = X / P := by omega
   refine ⟨rfl, ?_⟩
   have hdm := Nat.div_add_mod X P
   rw [Nat.mul_comm] at h3
   omega
structure KnuthI (M D L n k : Nat) (R Q : List Nat) : Prop where
 lenR : R.length = L + 1
 lenQ : Q.length = L - n + 1
 smallR : Small R
 smallQ : Small Q
 low : ∀ j (h : j < Q.length), j < k → Q[j] = 0
 lt : val R < D * 18446744073709551616 ^ k
 eq : val R + val Q * D = M
theorem KnuthI.start {D n : Nat} (hR : R.length = L + 1) (hs : Small R) (hM : val R = M) (hlt : M < D * 18446744073709551616 ^ (L - n + 1)) :
  KnuthI M D L n (L - n + 1) R (List.replicate (L - n + 1) 0) :=
 ⟨hR, by simp, hs, Small.replicate0 _, fun j h _ => by simp, by rw [hM]; exact hlt, by rw [hM, val_replicate0]; simp⟩
theorem digit_lt {D k : Nat} (hD : 0 < D) (h : X < D * 18446744073709551616 ^ (k + 1)) : X / (D * 18446744073709551616 ^ k) < 18446744073709551616 := by
 rw [Nat.div_lt_iff_lt_mul (Nat.mul_pos hD (Nat.pow_pos (by omega)))]
 rw [Nat.pow_succ] at h
 generalize 18446744073709551616 ^ k = p at *
 grind
theorem KnuthI.step {D n k : Nat} (h : KnuthI M D L n (k + 1) R Q) (hD : 0 < D) (hk : k < Q.length) (hR' : R'.length = L + 1) (hs : Small R') (hv : val R' = val R % (D * 18446744073709551616 ^ k)) :
  KnuthI M D L n k R' (Q.set k (val R / (D * 18446744073709551616 ^ k))) := by
 have hpos : 0 < D * 18446744073709551616 ^ k := Nat.mul_pos hD (Nat.pow_pos (by omega))
 refine ⟨hR', by simpa using h.lenQ, hs, small_set h.smallQ _ _ (digit_lt hD h.lt), fun j hj hjk => ?_, by rw [hv]; exact Nat.mod_lt _ hpos, ?_⟩
 · rw [List.getElem_set_ne (by omega)]
   exact h.low j (by simpa using hj) (by omega)
 · have e := h.eq
   have h0 := h.low k hk (by omega)
   have hs := val_set Q k (val R / (D * 18446744073709551616 ^ k)) hk
   rw [h0, Nat.mul_zero, Nat.add_zero] at hs
   have hd := Nat.div_add_mod (val R) (D * 18446744073709551616 ^ k)
   rw [hv, hs]
   rw [← hd] at e
   generalize val R / (D * 18446744073709551616 ^ k) = q at *
   generalize val R % (D * 18446744073709551616 ^ k) = r at *
   generalize 18446744073709551616 ^ k = p at *
   grind
theorem KnuthI.done {D n : Nat} (h : KnuthI M D L n 0 R Q) : val Q = M / D ∧ val R = M % D := by
 have e := h.eq
 have hl := h.lt
 rw [Nat.pow_zero, Nat.mul_one] at hl
 have hD : 0 < D := by omega
 rw [← e]
 exact ⟨by rw [Nat.add_mul_div_right _ _ hD, Nat.div_eq_of_lt hl, Nat.zero_add], by rw [Nat.add_mul_mod_self_right, Nat.mod_eq_of_lt hl]⟩
theorem scaled (x y s : Nat) (hs : 0 < s) : x * s / (y * s) = x / y ∧ x * s % (y * s) = x % y * s :=
 ⟨Nat.mul_div_mul_right _ _ hs, Nat.mul_mod_mul_right _ _ _⟩
theorem val_take_of_zero {l : List Nat} {k : Nat} (hz : ∀ j (h : j < l.length), k ≤ j → l[j] = 0) : val (l.take k) = val l := by
 have h := val_take_drop l k
 have hd : val (l.drop k) = 0 := by
  have : l.drop k = List.replicate (l.drop k).length 0 := by
   refine List.eq_replicate_iff.2 ⟨rfl, fun b hb => ?_⟩
   obtain ⟨j, hj, rfl⟩ := List.getElem_of_mem hb
   rw [List.getElem_drop]
   exact hz _ _ (by omega)
  rw [this, val_replicate0]
 rwa [hd, Nat.mul_zero, Nat.add_zero] at h
theorem val_top_two {l : List Nat} (h : l.length = m + 2) : val l = val (l.take m) + 18446744073709551616 ^ m * (l[m] + 18446744073709551616 * l[m + 1]) := by
 have h1 := val_take_succ (l := l) (i := m) (by omega)
 have h2 := val_take_succ (l := l) (i := m + 1) (by omega)
 rw [show m + 1 + 1 = l.length by omega, List.take_length, h1, Nat.pow_succ] at h2
 rw [h2]
 generalize 18446744073709551616 ^ m = p at *
 grind
theorem digit_top (hsR : Small R) (hsD : Small D) (hD : D.length = m + 2) (hp : a + (m + 2) < R.length) (hz : ∀ j (h : j < R.length), a + (m + 2) < j → R[j] = 0) :
  val R / (val D * 18446744073709551616 ^ a) * (D[m + 1] * 18446744073709551616 + D[m]) ≤ (R[a + (m + 2)] * 18446744073709551616 + R[a + (m + 1)]) * 18446744073709551616 + R[a + m] := by
 have hV : val R = val (R.take (a + m)) + 18446744073709551616 ^ (a + m) * (R[a + m] + 18446744073709551616 * (R[a + (m + 1)] + 18446744073709551616 * R[a + (m + 2)])) := by
  have h1 := val_take_succ (l := R) (i := a + m) (by omega)
  have h2 := val_take_succ (l := R) (i := a + (m + 1)) (by omega)
  have h3 := val_take_succ (l := R) (i := a + (m + 2)) hp
  rw [val_take_of_zero (l := R) (k := a + (m + 2) + 1) (fun j hj hk => hz j hj (by omega))] at h3
  have k1 : val (R.take (a + (m + 2))) = val (R.take (a + (m + 1) + 1)) := rfl
  have k2 : val (R.take (a + (m + 1))) = val (R.take (a + m + 1)) := rfl
  have k3 : 18446744073709551616 ^ (a + (m + 2)) = 18446744073709551616 ^ (a + m) * 18446744073709551616 * 18446744073709551616 := rfl
  have k4 : 18446744073709551616 ^ (a + (m + 1)) = 18446744073709551616 ^ (a + m) * 18446744073709551616 := rfl
  rw [k1, h2, k2, h1, k3, k4] at h3
  rw [h3]
  generalize 18446744073709551616 ^ (a + m) = p at *
  grind
 have hlow := val_lt (hsR.take (a + m))
 rw [List.length_take, Nat.min_eq_left (by omega)] at hlow
 have hW := val_top_two hD
 have hq := Nat.div_mul_le_self (val R) (val D * 18446744073709551616 ^ a)
 generalize val R / (val D * 18446744073709551616 ^ a) = d at *
 generalize val (R.take (a + m)) = r0 at *
 generalize val (D.take m) = d0 at *
 generalize D[m + 1] = high at *
 generalize D[m] = under at *
 generalize R[a + (m + 2)] = first at *
 generalize R[a + (m + 1)] = second at *
 generalize R[a + m] = third at *
 rw [hW, hV] at hq
 have hpa : 0 < 18446744073709551616 ^ (a + m) := Nat.pow_pos (by omega)
 have h1 : d * (high * 18446744073709551616 + under) * 18446744073709551616 ^ (a + m) ≤ d * ((d0 + 18446744073709551616 ^ m * (under + 18446744073709551616 * high)) * 18446744073709551616 ^ a) := by
  rw [Nat.pow_add]
  generalize 18446744073709551616 ^ a = pa at *
  generalize 18446744073709551616 ^ m = pm at *
  have : d * ((d0 + pm * (under + 18446744073709551616 * high)) * pa) = d * (high * 18446744073709551616 + under) * (pa * pm) + d * d0 * pa := by grind
  omega
 have h2 : d * (high * 18446744073709551616 + under) * 18446744073709551616 ^ (a + m) < ((first * 18446744073709551616 + second) * 18446744073709551616 + third + 1) * 18446744073709551616 ^ (a + m) := by
  generalize 18446744073709551616 ^ (a + m) = p at *
  have e : ((first * 18446744073709551616 + second) * 18446744073709551616 + third + 1) * p = p * (third + 18446744073709551616 * (second + 18446744073709551616 * first)) + p := by grind
  omega
 have := Nat.lt_of_mul_lt_mul_right h2
 omega
structure GuessI (d first second high under third q r : Nat) : Prop where
 word : q < 18446744073709551616
 rest : r < 18446744073709551616
 eq : q * high + r = first * 18446744073709551616 + second
 ge : d ≤ q
theorem GuessI.start {first high : Nat} (hlt : first < high) (hs : second < 18446744073709551616) (hh : high < 18446744073709551616) (ht : third < 18446744073709551616)
  (hd : d * (high * 18446744073709551616 + under) ≤ (first * 18446744073709551616 + second) * 18446744073709551616 + third) :
  GuessI d first second high under third ((first * 18446744073709551616 + second) / high) ((first * 18446744073709551616 + second) % high) := by
 have h0 : 0 < high := by omega
 refine ⟨?_, by have := Nat.mod_lt (first * 18446744073709551616 + second) h0; omega, ?_, ?_⟩
 · rw [Nat.div_lt_iff_lt_mul h0]
   have := Nat.mul_le_mul_right 18446744073709551616 hlt
   rw [Nat.succ_mul] at this
   rw [Nat.mul_comm 18446744073709551616]
   omega
 · rw [Nat.mul_comm]
   exact Nat.div_add_mod _ _
 · rw [Nat.le_div_iff_mul_le h0]
   have e : d * (high * 18446744073709551616 + under) = d * high * 18446744073709551616 + d * under := by grind
   rw [e] at hd
   generalize d * high = z at *
   generalize d * under = u at *
   omega
theorem GuessI.less {first high : Nat} (h : GuessI d first second high under third q r)
  (hd : d * (high * 18446744073709551616 + under) ≤ (first * 18446744073709551616 + second) * 18446744073709551616 + third) (hgt : r * 18446744073709551616 + third < q * under) : 1 ≤ q ∧ d ≤ q - 1 := by
 have h1 : 1 ≤ q := by
  rcases Nat.eq_zero_or_pos q with h0 | h0
  · subst h0; omega
  · exact h0
 refine ⟨h1, ?_⟩
 have hlt : d < q := by
  refine Decidable.byContradiction fun hn => ?_
  have hge : q ≤ d := by omega
  have h2 : q * (high * 18446744073709551616 + under) ≤ d * (high * 18446744073709551616 + under) := Nat.mul_le_mul_right _ hge
  have e : q * (high * 18446744073709551616 + under) = (q * high) * 18446744073709551616 + q * under := by grind
  have e2 := h.eq
  generalize q * high = z at *
  generalize q * under = u at *
  generalize d * (high * 18446744073709551616 + under) = v at *
  omega
 omega
theorem GuessI.next {first high : Nat} (h : GuessI d first second high under third q r) (h1 : 1 ≤ q) (hd : d ≤ q - 1) (hr : r + high < 18446744073709551616) :
  GuessI d first second high under third (q - 1) (r + high) := by
 refine ⟨by have := h.word; omega, hr, ?_, hd⟩
 have e := h.eq
 obtain ⟨m, rfl⟩ : ∃ m, q = m + 1 := ⟨q - 1, by omega⟩
 rw [Nat.add_mul, Nat.one_mul] at e
 show m * high + (r + high) = _
 omega
theorem len_shift (n b : Nat) : (limbs (n * 2 ^ b)).length ≤ (limbs n).length + b / 64 + 1 := by
 apply len_limbs_le
 have h1 := lt_pow_len n
 have h2 : 0 < 2 ^ b := Nat.pow_pos (by omega)
 refine Nat.lt_of_lt_of_le (Nat.mul_lt_mul_of_pos_right h1 h2) ?_
 rw [W_pow, W_pow, ← Nat.pow_add]
 exact Nat.pow_le_pow_right (by omega) (by omega)
theorem len_div (n d : Nat) : (limbs (n / d)).length ≤ (limbs n).length := len_mono (Nat.div_le_self _ _)
theorem isU_one (h1 : x < 18446744073709551616) (h : w.cell? ⟨g, 0, none⟩ = some (.int .u64 (x : Int))) :
 IsU w old (.slice (some ⟨g, 0, none⟩) 1 1) [x] := isU_lit rfl (by omega) (by omega) (Small.cons h1 Small.nil) fun j hj => match j, hj with | 0, _ => h
def Nums (w : World) (g : Nat) (ns : List Nat) : Prop := ∀ j (h : j < ns.length), ∃ v, w.cell? ⟨g, j, none⟩ = some v ∧ IsN w old v ns[j]
theorem Nums.below {ns : List Nat} (h : Nums w g ns) (hb : Below w.heap.size w w') : Nums w' g ns := fun j hj => by
 obtain ⟨v, hc, hv⟩ := h j hj
 exact ⟨v, (hb.cell (p := ⟨g, j, none⟩) (lt_of_cell hc)).trans hc, hv.below hb⟩
structure Split (m n k t x0 x1 y0 y1 : Nat) : Prop where
 l1 : x0 + y0 < t
 l2 : x1 + y1 < t
 l3 : x0 + x1 + (y0 + y1) < t
 a0 : (limbs x0).length ≤ 100000000000
 a1 : (limbs x1).length ≤ 100000000000
 asum : (limbs (x0 + x1)).length ≤ 100000000000
 b0 : (limbs y0).length ≤ 100000000000
 b1 : (limbs y1).length ≤ 100000000000
 bsum : (limbs (y0 + y1)).length ≤ 100000000000
 pl : (limbs ((x0 + x1) * (y0 + y1))).length ≤ 200000000000
 ml : (limbs ((x0 + x1) * (y0 + y1) - (x0 * y0 + x1 * y1))).length ≤ 200000000000
 ql : (limbs (x1 * y1)).length ≤ 200000000000
 le : x0 * y0 + x1 * y1 ≤ (x0 + x1) * (y0 + y1)
 out : x0 * y0 + (((x0 + x1) * (y0 + y1) - (x0 * y0 + x1 * y1)) * 18446744073709551616 ^ k + x1 * y1 * 18446744073709551616 ^ (2 * k)) = m * n
 ol : (limbs (m * n)).length ≤ 200000000000
open Go.RowKit Go.Shelf
structure Just (g : Nat) (w w' : World) : Prop where
 os : w'.os = w.os
 tape : w'.tape = w.tape
 output : w'.output = w.output
 size : w.heap.size ≤ w'.heap.size
 block : ∀ k, k < w.heap.size → k ≠ g → w'.heap[k]? = w.heap[k]?
theorem Just.refl (g : Nat) (w : World) : Just g w w := ⟨rfl, rfl, rfl, Nat.le_refl _, fun _ _ _ => rfl⟩
theorem Just.trans {a b c : World} (h : Just g a b) (k : Just g b c) : Just g a c :=
 ⟨k.os.trans h.os, k.tape.trans h.tape, k.output.trans h.output, Nat.le_trans h.size k.size, fun i hi hg => (k.block i (Nat.lt_of_lt_of_le hi h.size) hg).trans (h.block i hi hg)⟩
theorem Just.step {a b c : World} (h : Just g a b) (k : Below b.heap.size b c) : Just g a c :=
 h.trans ⟨k.os, k.tape, k.output, k.size, fun i hi _ => k.block i hi⟩
theorem Just.drew {a b : World} (h : Just g a b) : Just g a b.drew := h.step (bdr_)
theorem Just.setCell {a b : World} (h : Just g a b) (o : Nat) (u : Value) : Just g a (b.setCell ⟨g, o, none⟩ u) :=
 h.trans ⟨rfl, rfl, rfl, by simp [World.setCell], fun i _ hg => Below.heap_setCell _ _ _ _ hg⟩
theorem Just.below {B : Nat} {a b : World} (h : Just g a b) (hB : B ≤ g) (hs : B ≤ a.heap.size) : Below B a b :=
 ⟨h.os, h.tape, h.output, h.size, fun k hk => h.block k (by omega) (by omega)⟩
theorem Just.cell {v : Value} (h : Just g w w') (hg : b ≠ g) (hc : w.cell? ⟨b, i, none⟩ = some v) : w'.cell? ⟨b, i, none⟩ = some v :=
 (World.cell?_of_block (w := w) (a := ⟨b, i, none⟩) (h.block b (lt_of_cell hc) hg)).trans hc
theorem Just.words {l : List Nat} (h : Just g w w') (hz : ¬ Z.blk g) (hu : U64s w Z A c l) : U64s w' Z A c l :=
 hu.keep fun b hb hl => h.block b hl (fun e => hz (e ▸ hb))
def only (g : Nat) : Zone := ⟨fun b => b = g, True⟩
theorem U64s.cellAt {l : List Nat} (h : U64s w Z (some ⟨b, o, none⟩) c l) (hj : j < l.length) : w.cell? ⟨b, o + j, none⟩ = some (.int .u64 (l[j] : Int)) := by
 obtain ⟨b', o', e, _, _, _, hc⟩ := h.open (by omega)
 injection e with e
 injection e with e1 e2
 subst e1 e2
 exact hc j hj
theorem U64s.frozenAt {l : List Nat} (h : U64s w Z (some ⟨b, o, none⟩) c l) (hz : Z.soft) (h0 : 0 < l.length) (j : Nat) : w.frozen? ⟨b, o + j, none⟩ = false := by
 obtain ⟨b', o', e, _, _, hf, _⟩ := h.open h0
 injection e with e
 injection e with e1 e2
 subst e1 e2
 exact hf hz j
theorem U64s.store {l : List Nat} (h : U64s w Z (some ⟨b, o, none⟩) c l) (hj : j < l.length) (hv : v < 18446744073709551616) :
  U64s (w.setCell ⟨b, o + j, none⟩ (.int .u64 (v : Int))) Z (some ⟨b, o, none⟩) c (l.set j v) := by
 refine ⟨small_set h.small _ _ hv, by rw [List.length_set]; exact h.cap, h.max, h.nul, fun _ => ?_⟩
 obtain ⟨b', o', e, hb, _, hf, hc⟩ := h.open (by omega)
 injection e with e
 injection e with e1 e2
 subst e1 e2
 refine ⟨b, o, rfl, hb, fun hs i => (World.frozen?_setCell _ _ _ _).trans (hf hs i), fun i u hu => ?_⟩
 rw [List.getElem?_map] at hu
 by_cases hij : j = i
 · subst hij
   rw [List.getElem?_set_self hj] at hu
   simp only [Option.map_some, Option.some.injEq] at hu
   subst hu
   exact World.cell?_setCell_same _ _ _ (hc j hj)
 · rw [List.getElem?_set_ne hij] at hu
   rw [World.cell?_setCell_other _ _ _ _ (by simp [hij])]
   by_cases hi : i < l.length
   · rw [List.getElem?_eq_getElem hi] at hu
     rw [hc i hi]
     simpa using hu
   · rw [List.getElem?_eq_none (by omega)] at hu
     cases hu
theorem U64s.drew {l : List Nat} (h : U64s w Z A c l) : U64s w.drew Z A c l := h.below ((Below.refl _ w).drew)
structure Divr (w : World) (g rb ro cR : Nat) (Zd : Zone) (B : Option Addr) (cD : Nat) (R D : List Nat) : Prop where
 c0 : w.cell? ⟨g, 0, none⟩ = some (.slice (some ⟨rb, ro, none⟩) R.length cR)
 c1 : w.cell? ⟨g, 1, none⟩ = some (.slice B D.length cD)
 own : U64s w (only rb) (some ⟨rb, ro, none⟩) cR R
 by_ : U64s w Zd B cD D
 ne : g ≠ rb
 nz : ¬ Zd.blk rb
 max : R.length ≤ 100000000000
theorem Divr.just (h : Divr w g rb ro cR Zd B cD R D) (hj : Just rb w w') (hl : R'.length = R.length)
  (ho : U64s w' (only rb) (some ⟨rb, ro, none⟩) cR R') : Divr w' g rb ro cR Zd B cD R' D :=
 ⟨by rw [hl]; exact hj.cell h.ne h.c0, hj.cell h.ne h.c1, ho, hj.words h.nz h.by_, h.ne, h.nz, by rw [hl]; exact h.max⟩
structure Taken (w : World) (rb ro cR : Nat) (R D : List Nat) (q a : Nat) (less : Nat) (w' : World) (R' : List Nat) : Prop where
 one : less ≤ 1
 len : R'.length = R.length
 small : Small R'
 same : ∀ j (h : j < R'.length) (h' : j < R.length), a + D.length < j → R'[j] = R[j]
 eq : val R' + q * val D * 18446744073709551616 ^ a = val R + less * 18446744073709551616 ^ (a + D.length + 1)
 own : U64s w' (only rb) (some ⟨rb, ro, none⟩) cR R'
 just : Just rb w w'
theorem take_limbs (hq : q < 18446744073709551616) (hy : y < 18446744073709551616) (hc : c < 18446744073709551616) :
  (q * y % 18446744073709551616 + c) % 18446744073709551616 = (q * y + c) % 18446744073709551616 ∧
  q * y / 18446744073709551616 + (q * y % 18446744073709551616 + c) / 18446744073709551616 = (q * y + c) / 18446744073709551616 ∧
  (q * y + c) / 18446744073709551616 < 18446744073709551616 := by
 have h := mul_lt_W hq hy
 generalize q * y = p at *
 omega
theorem take_any (h : Divr w g rb ro cR Zd B cD R D) (hq : q < 18446744073709551616) (hn : a + D.length < R.length) :
  Calls Tryz.prog 154 #[.pointer (some ⟨g, 0, none⟩), .int .u64 (q : Int), .int .i64 (a : Int)] w fun e w' => ∃ less R', e = .returned (.bool (decide (0 < less))) ∧ Taken w rb ro cR R D q a less w' R' := by
 obtain ⟨nR, hlenR⟩ : ∃ nR, nR = R.length := ⟨_, rfl⟩
 have hmax := h.max
 have c0 := h.c0
 rw [← hlenR] at c0 hmax
 have c1 := h.c1
 have hst := TakeI.start (R0 := R) (D := D) (q := q) (a := a) h.own.small
 have hown0 := h.own
 have hne := h.ne
 have hnz := h.nz
 have hby := h.by_
 have hsD := hby.small
 obtain ⟨Hne, Hnz, Hlen⟩ := hid3 hne hnz hlenR
 clear h hne hnz hlenR
 have hDl : D.length ≤ 100000000000 := by have := Hlen.out; omega
 have hnR : nR ≤ 100000000000 := hmax
 have haR : a + D.length < nR := by have := Hlen.out; omega
 clear hn
 go_enter Tryz.func154, Tryz.ntmps154
 go_wp2
 go_loopw [20, 7, 8] (fun iv cv lv wr => ∃ (i : Nat) (R' : List Nat) (cy ls : Nat), i ≤ D.length ∧ iv = .int .i64 i ∧ cv = .int .u64 (cy : Int) ∧ lv = .int .u64 (ls : Int) ∧ Hid (U64s wr (only rb) (some ⟨rb, ro, none⟩) cR R') ∧ Hid (TakeI R D q a i R' cy ls) ∧ Just rb w wr) (fun iv _ _ _ => D.length - (intOf iv).toNat)
 case atStart => exact ⟨0, R, 0, 0, Nat.zero_le _, rfl, rfl, rfl, hid hown0, hid hst, Just.refl _ _⟩
 case round =>
  obtain ⟨i, R', cy, ls, hi, rfl, rfl, rfl, hown, htake, hjust⟩ := hrel
  have k0 := hjust.cell Hne.out c0
  have k1 := hjust.cell Hne.out c1
  have hlen' := htake.out.len
  have hcy := htake.out.word
  have hls := htake.out.one
  have HL := hid hlen'
  clear hlen' hst hown0 c0 c1
  by_cases hlt : i < D.length
  · have hDr := hjust.words Hnz.out hby
    obtain ⟨b2, o2, rfl, hb2ne, _, _, hc2⟩ := hDr.open (by omega)
    have hy := hc2 i hlt
    have hyl := hsD.get hlt
    have hp : a + i < R'.length := by have := HL.out; have := Hlen.out; omega
    have hcell' := hown.out.cellAt hp
    have hxl := htake.out.small.get hp
    have hfr := hown.out.frozenAt trivial (by omega) (a + i)
    have hpl : a + i < nR := by omega
    obtain ⟨m1, m2, m3⟩ := take_limbs hq hyl hcy
    have hlo : (q * D[i] + cy) % 18446744073709551616 < 18446744073709551616 := Nat.mod_lt _ (by omega)
    obtain ⟨v, ls', ev, els, hv, hl1, heq⟩ := sub_limb hxl hlo hls
    have hstep := htake.out.step hlt hp hv hl1 m3 heq
    have Hstep := hid hstep
    have hmul := fun w => bits_Mul64 q D[i] hq hyl w
    have hlo0 : q * D[i] % 18446744073709551616 < 18446744073709551616 := Nat.mod_lt _ (by omega)
    have hadd : ∀ w, (callFunc 140 #[.int .u64 ((q * D[i] % 18446744073709551616 : Nat) : Int), .int .u64 (cy : Int), .int .u64 0]).run Tryz.prog w = .ok (.value (.tuple #[.int .u64 (((q * D[i] + cy) % 18446744073709551616 : Nat) : Int), .int .u64 (((q * D[i] % 18446744073709551616 + cy) / 18446744073709551616 : Nat) : Int)])) w := fun w => by
     rw [← m1]
     exact run_Add64 _ _ 0 w hlo0 hcy (by omega)
    have hsub : ∀ w, (callFunc 141 #[.int .u64 (R'[a + i] : Int), .int .u64 (((q * D[i] + cy) % 18446744073709551616 : Nat) : Int), .int .u64 (ls : Int)]).run Tryz.prog w = .ok (.value (.tuple #[.int .u64 (v : Int), .int .u64 (ls' : Int)])) w := fun w => by
     rw [ev, els]
     exact run_Sub64 _ _ _ w hxl hlo hls
    have o1 := hid (hown.out.store hp hv)
    clear ev els heq hstep htake hc2
    rw [← m2] at m3 Hstep
    clear m1 m2
    generalize D[i] = y at *
    generalize R'[a + i] = x at *
    generalize (q * y % 18446744073709551616 + cy) / 18446744073709551616 = ca at *
    generalize (q * y + cy) % 18446744073709551616 = lo at *
    generalize q * y % 18446744073709551616 = lo0 at *
    generalize q * y / 18446744073709551616 = hi1 at *
    clear hby hsD hDr
    go_wp2_with fail
    refine (hmul _).mono ?_
    rintro e w' ⟨rfl, rfl⟩
    clear hmul
    go_wp2
    go_region
    all_goals
     go_wp2
     go_roundw
     case rel =>
      refine ⟨i + 1, R'.set (a + i) v, _, ls', by omega, by go_num, rfl, rfl, ?_, Hstep, (hjust.setCell (ro + (a + i)) (.int .u64 (v : Int))).drew⟩
      exact hid (o1.out.drew)
     case measure => simp [intOf]; omega
  · obtain rfl : i = D.length := by omega
    have hp : a + D.length < R'.length := by have := HL.out; have := Hlen.out; omega
    have hcell' := hown.out.cellAt hp
    have hxl := htake.out.small.get hp
    have hfr := hown.out.frozenAt trivial (by omega) (a + D.length)
    obtain ⟨v, ls', ev, els, hv, hl1, heq⟩ := sub_limb hxl hcy hls
    obtain ⟨e1, e2, e3, e4⟩ := htake.out.last hp hv hl1 heq
    have hsub : ∀ w, (callFunc 141 #[.int .u64 (R'[a + D.length] : Int), .int .u64 (cy : Int), .int .u64 (ls : Int)]).run Tryz.prog w = .ok (.value (.tuple #[.int .u64 (v : Int), .int .u64 (ls' : Int)])) w := fun w => by
     rw [ev, els]
     exact run_Sub64 _ _ _ w hxl hcy hls
    obtain ⟨o1, Hfin⟩ := hid2 (hown.out.store hp hv) (And.intro e1 (And.intro e2 (And.intro e3 e4)))
    have hd : decide ((0 : Int) < (ls' : Int)) = decide (0 < ls') := decide_eq_decide.2 (by omega)
    have Hd := hid hd
    clear ev els heq e1 e2 e3 e4 htake hd
    generalize R'[a + D.length] = x at *
    clear hby hsD
    go_wp2
    go_region
    all_goals
     go_wp2
     go_ret
     refine ⟨ls', R'.set (a + D.length) v, ?_, ⟨hl1, Hfin.out.1, Hfin.out.2.1, Hfin.out.2.2.1, Hfin.out.2.2.2, ?_, (hjust.setCell (ro + (a + D.length)) (.int .u64 (v : Int))).drew⟩⟩
     · first | rfl | (rw [← Hd.out]; rfl) | (simp; done)
     · exact o1.out.drew
def bval : List Nat → Nat
 | [] => 0
 | b :: t => b + 2 * bval t
theorem bval_append (l r : List Nat) : bval (l ++ r) = bval l + 2 ^ l.length * bval r := by
 induction l with
 | nil => simp [bval]
 | cons b t ih =>
   rw [List.cons_append, bval, bval, ih, List.length_cons, Nat.pow_succ]
   grind
theorem bval_zero (l : List Nat) (h : ∀ x ∈ l, x = 0) : bval l = 0 := by
 induction l with
 | nil => rfl
 | cons b t ih =>
   rw [bval, ih (fun x hx => h x (List.mem_cons_of_mem _ hx)), h b (List.mem_cons_self ..)]
theorem bval_lt (l : List Nat) (h : ∀ x ∈ l, x ≤ 1) : bval l < 2 ^ l.length := by
 induction l with
 | nil => simp [bval]
 | cons b t ih =>
   have h1 := ih (fun x hx => h x (List.mem_cons_of_mem _ hx))
   have h2 := h b (List.mem_cons_self ..)
   rw [bval, List.length_cons, Nat.pow_succ]
   omega
theorem bval_take_succ {l : List Nat} {k : Nat} (h : k < l.length) : bval (l.take (k + 1)) = bval (l.take k) + 2 ^ k * l[k] := by
 rw [List.take_succ_eq_append_getElem h, bval_append, List.length_take, Nat.min_eq_left (by omega)]
 simp [bval]
def Bits (w : World) (v : Value) (bs : List Nat) : Prop := ∃ A c, v = .slice A bs.length c ∧ bs.length ≤ c ∧ c ≤ 9223372036854775807 ∧ (∀ x ∈ bs, x ≤ 1) ∧
 (0 < bs.length → ∃ b o, A = some ⟨b, o, none⟩ ∧ b < w.heap.size ∧ ∀ j (hj : j < bs.length), w.cell? ⟨b, o + j, none⟩ = some (.int .i64 (bs[j] : Int)))
structure FromI (bs : List Nat) (k : Nat) (ws : List Nat) : Prop where
 small : Small ws
 len : ws.length = (k + 63) / 64
 val : val ws = bval (bs.take k)
theorem FromI.start (bs : List Nat) : FromI bs 0 [] := ⟨Small.nil, rfl, rfl⟩
structure FromJ (bs : List Nat) (k : Nat) (ws : List Nat) : Prop where
 small : Small ws
 len : ws.length = k / 64 + 1
 val : val ws = bval (bs.take k)
theorem FromI.more {k : Nat} (h : FromI bs k ws) (hk : k % 64 = 0) : FromJ bs k (ws ++ [0]) := by
 refine ⟨h.small.append (Small.cons (by omega) Small.nil), ?_, ?_⟩
 · rw [List.length_append, h.len, List.length_singleton]
   omega
 · rw [val_append, h.val]
   simp [Go.Proofs.YtcheajjjdbllfaaGreat.val]
theorem FromJ.zero {k : Nat} (h : FromJ bs k ws) (hk : k < bs.length) (h0 : bs[k] = 0) : FromI bs (k + 1) ws := by
 refine ⟨h.small, by rw [h.len]; omega, ?_⟩
 rw [h.val, bval_take_succ hk, h0, Nat.mul_zero, Nat.add_zero]
theorem pow_split (k : Nat) : 2 ^ k = 18446744073709551616 ^ (k / 64) * 2 ^ (k % 64) := by
 rw [W_pow, ← Nat.pow_add, Nat.div_add_mod]
theorem FromJ.bound {k : Nat} (h : FromJ bs k ws) (hk : k < bs.length) (h1 : ∀ x ∈ bs, x ≤ 1) (hq : k / 64 < ws.length) : ws[k / 64] + 2 ^ (k % 64) < 18446744073709551616 := by
 have e := val_set ws (k / 64) 0 hq
 rw [Nat.mul_zero, Nat.add_zero, h.val] at e
 have l := bval_lt (bs.take k) (fun x hx => h1 x (List.mem_of_mem_take hx))
 rw [List.length_take, Nat.min_eq_left (by omega), pow_split] at l
 have hlt : 18446744073709551616 ^ (k / 64) * ws[k / 64] < 18446744073709551616 ^ (k / 64) * 2 ^ (k % 64) := by omega
 have h2 := Nat.lt_of_mul_lt_mul_left hlt
 have h3 : 2 ^ (k % 64) ≤ 2 ^ 63 := Nat.pow_le_pow_right (by omega) (by omega)
 omega
theorem FromJ.one {k : Nat} (h : FromJ bs k ws) (hk : k < bs.length) (h1 : ∀ x ∈ bs, x ≤ 1) (hb : bs[k] = 1) (hq : k / 64 < ws.length) : FromI bs (k + 1) (ws.set (k / 64) (ws[k / 64] + 2 ^ (k % 64))) := by
 refine ⟨small_set h.small _ _ (h.bound hk h1 hq), by rw [List.length_set, h.len]; omega, ?_⟩
 have e := val_set ws (k / 64) (ws[k / 64] + 2 ^ (k % 64)) hq
 rw [Nat.mul_add, ← pow_split, h.val] at e
 rw [bval_take_succ hk, hb, Nat.mul_one]
 omega
theorem FromJ.put {k s : Nat} (h : FromJ bs k ws) (hk : k < bs.length) (h1 : ∀ x ∈ bs, x ≤ 1) (hb : bs[k] = 1) (hq : q = k / 64) (hr : r = k % 64) (hs : s = 2 ^ r) :
  ∃ x, ws[q]? = some x ∧ x + s < 18446744073709551616 ∧ FromI bs (k + 1) (ws.set q (x + s)) := by
 subst hq hr hs
 have hq : k / 64 < ws.length := by rw [h.len]; omega
 exact ⟨ws[k / 64], List.getElem?_eq_getElem hq, h.bound hk h1 hq, h.one hk h1 hb hq⟩
theorem FromI.done {k : Nat} (h : FromI bs k ws) (hk : k ≤ bs.length) (hz : ∀ j (hj : j < bs.length), k ≤ j → bs[j] = 0) (ht : k = 0 ∨ ∃ h : k - 1 < bs.length, bs[k - 1] ≠ 0) (h1 : ∀ x ∈ bs, x ≤ 1) : ws = limbs (bval bs) := by
 have e : bval bs = bval (bs.take k) := by
  conv => lhs; rw [← List.take_append_drop k bs, bval_append]
  rw [bval_zero (bs.drop k), Nat.mul_zero, Nat.add_zero]
  intro x hx
  obtain ⟨j, hj, rfl⟩ := List.getElem_of_mem hx
  rw [List.getElem_drop]
  exact hz _ (by rw [List.length_drop] at hj; omega) (by omega)
 rw [e, ← h.val]
 have hlen := h.len
 rcases ht with rfl | ⟨h2, h3⟩
 · obtain rfl : ws = [] := List.length_eq_zero_iff.1 hlen
   rfl
 · by_cases hk0 : k = 0
   · subst hk0
     obtain rfl : ws = [] := List.length_eq_zero_iff.1 hlen
     rfl
   · have hp : 0 < ws.length := by omega
     refine (limbs_val ws h.small ?_).symm
     rw [good_last hp]
     have h4 : bs[k - 1] = 1 := by have := h1 _ (List.getElem_mem h2); omega
     have h5 := bval_take_succ h2
     rw [h4, Nat.mul_one, Nat.sub_add_cancel (by omega), ← h.val] at h5
     rw [bne_iff_ne]
     intro h6
     have h7 := val_take_drop ws (ws.length - 1)
     have h8 : ws.drop (ws.length - 1) = [ws[ws.length - 1]] := by
      rw [List.drop_eq_getElem_cons (by omega), Nat.sub_add_cancel hp, List.drop_length]
     rw [h8, h6] at h7
     simp only [Go.Proofs.YtcheajjjdbllfaaGreat.val, Nat.mul_zero, Nat.add_zero] at h7
     have h9 := val_lt (l := ws.take (ws.length - 1)) (h.small.take _)
     rw [h7, List.length_take, Nat.min_eq_left (by omega), W_pow] at h9
     have h10 : 2 ^ (64 * (ws.length - 1)) ≤ 2 ^ (k - 1) := Nat.pow_le_pow_right (by omega) (by omega)
     omega
end Go.Proofs.YtcheajjjdbllfaaGreat
