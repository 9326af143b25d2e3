/-
  The contract of nat.Down. No conditions but that a number has at most 900,000 limbs.
-/
import Derived.RegionTactic
import Derived.ChangeAlike
import Derived.BigRegion
import Derived.Test.YtodcjaobbnjikaaClone
namespace Go.Proofs.Ytodcjaobbnjikaa
open Go.RowKit
set_option linter.unusedVariables false
set_option linter.unusedSimpArgs false

theorem U64s.drop {w : World} {Z : Zone} {A : Option Addr} {c : Nat} {l : List Nat} (h : U64s w Z A c l) {k : Nat} (hk : k ≤ l.length) :
    U64s w Z (if c = k then A else A.map (·.add k)) (c - k) (l.drop k) := by
  have hcap := h.cap
  have hmax := h.max
  refine ⟨h.small.drop k, by rw [List.length_drop]; omega, by omega, fun hA => ?_, fun h0 => ?_⟩
  · split at hA
    · omega
    · cases A with
      | none => have := h.nul rfl; omega
      | some a => cases hA
  · have hkl : k < l.length := by simp at h0; omega
    obtain ⟨b, o, rfl, hb, hf, hc⟩ := h.row (by simp; omega)
    rw [if_neg (by omega)]
    refine ⟨b, o + k, by simp [Addr.add_lit], hb, fun hs j => by rw [Nat.add_assoc]; exact hf hs _, fun j u hu => ?_⟩
    rw [Nat.add_assoc]
    exact hc _ u (by rw [← hu, List.map_drop, List.getElem?_drop])

theorem own_form {w : World} {base : Nat} {e : TypeId} {A : Option Addr} {n c : Nat} {xs : List Value} (h : w.ownsRow base e 1 (.slice A n c) n xs) (hn : 0 < n) : ∃ g, A = some ⟨g, 0, none⟩ ∧ base ≤ g := by
  rcases h.2 with ⟨_, h0⟩ | ⟨g, cap, cur, e1, hb, _⟩
  · omega
  · injection e1 with e1
    exact ⟨g, e1, hb⟩

/-- How a number divided stands in memory behind k rounds: the first k limbs are done. -/
def downO (n d : Nat) (l : List Nat) (k : Nat) : List Nat := (List.range k).map (fun i => d / 18446744073709551616 ^ i % 18446744073709551616) ++ l.drop k

theorem downO_length {n d : Nat} {l : List Nat} {k : Nat} (hk : k ≤ l.length) : (downO n d l k).length = l.length := by simp [downO]; omega
theorem downO_at {n d : Nat} {l : List Nat} {k j : Nat} (hk : k ≤ j) : (downO n d l k)[j]? = l[j]? := by
  unfold downO
  rw [List.getElem?_append_right (by simp; omega), List.getElem?_drop]
  simp [show k + (j - k) = j by omega]
theorem downO_step {n d : Nat} {l : List Nat} {k : Nat} (hk : k < l.length) : (downO n d l k).set k (d / 18446744073709551616 ^ k % 18446744073709551616) = downO n d l (k + 1) := by
  unfold downO
  rw [List.set_append_right _ _ (by simp)]
  simp only [List.length_map, List.length_range, Nat.sub_self]
  rw [List.drop_eq_getElem_cons hk, List.set_cons_zero, List.range_succ]
  simp

theorem val_digits (d k : Nat) : val ((List.range k).map (fun i => d / 18446744073709551616 ^ i % 18446744073709551616)) = d % 18446744073709551616 ^ k := by
  induction k with
  | zero => simp [val, Nat.mod_one]
  | succ k ih =>
    rw [List.range_succ, List.map_append, val_append, ih]
    simp only [List.map_cons, List.map_nil, val, List.length_map, List.length_range, Nat.mul_zero, Nat.add_zero]
    rw [Nat.pow_succ, Nat.mod_mul]

/-- A limb of a quotient by 2^(64q + r), out of two limbs. -/
theorem down_limb (n q r i : Nat) (hr : r < 64) : n / 2 ^ (64 * q + r) / 18446744073709551616 ^ i % 18446744073709551616 =
    (limbs n)[q + i]?.getD 0 / 2 ^ r ||| (limbs n)[q + i + 1]?.getD 0 * 2 ^ (64 - r) % 18446744073709551616 := by
  rw [limb_get, limb_get]
  have e1 : n / 2 ^ (64 * q + r) / 18446744073709551616 ^ i = n / 18446744073709551616 ^ (q + i) / 2 ^ r := by
    rw [W_pow, W_pow, Nat.div_div_eq_div_mul, Nat.div_div_eq_div_mul, ← Nat.pow_add, ← Nat.pow_add]
    congr 2
    omega
  have e2 : n / 18446744073709551616 ^ (q + i + 1) = n / 18446744073709551616 ^ (q + i) / 18446744073709551616 := by rw [Nat.pow_succ, Nat.div_div_eq_div_mul]
  rw [e1, e2]
  generalize n / 18446744073709551616 ^ (q + i) = m
  have hw : (18446744073709551616 : Nat) = 2 ^ r * 2 ^ (64 - r) := by rw [← Nat.pow_add, show r + (64 - r) = 64 by omega]
  have h2 : 0 < 2 ^ r := Nat.pow_pos (by omega)
  have h3 : 0 < 2 ^ (64 - r) := Nat.pow_pos (by omega)
  -- the low part
  have a1 : m % 18446744073709551616 / 2 ^ r = m / 2 ^ r % 2 ^ (64 - r) := by
    rw [hw, Nat.mod_mul_right_div_self]
  have a2 : (m / 18446744073709551616 % 18446744073709551616) * 2 ^ (64 - r) % 18446744073709551616 = 2 ^ (64 - r) * (m / 18446744073709551616 % 2 ^ r) := by
    have : (18446744073709551616 : Nat) = 2 ^ (64 - r) * 2 ^ r := by rw [hw, Nat.mul_comm]
    rw [Nat.mul_comm (m / 18446744073709551616 % 18446744073709551616)]
    conv => lhs; rw [show (2 ^ (64 - r) * (m / 18446744073709551616 % 18446744073709551616) % 18446744073709551616) = 2 ^ (64 - r) * (m / 18446744073709551616 % 18446744073709551616) % (2 ^ (64 - r) * 2 ^ r) from by rw [← this]]
    rw [Nat.mul_mod_mul_left]
    congr 1
    rw [hw, Nat.mod_mul_right_mod]
  rw [a1, a2, Nat.or_comm, ← Nat.two_pow_add_eq_or_of_lt (Nat.mod_lt _ h3)]
  have e3 : m / 18446744073709551616 = m / 2 ^ r / 2 ^ (64 - r) := by rw [hw, Nat.div_div_eq_div_mul]
  rw [e3]
  generalize m / 2 ^ r = p
  have hw' : (18446744073709551616 : Nat) = 2 ^ (64 - r) * 2 ^ r := by rw [hw, Nat.mul_comm]
  rw [hw', Nat.mod_mul]
  omega

theorem down_done {n q r : Nat} {l' : List Nat} (hl : l' = (limbs n).drop q) : Small (downO n (n / 2 ^ (64 * q + r)) l' l'.length) ∧ val (downO n (n / 2 ^ (64 * q + r)) l' l'.length) = n / 2 ^ (64 * q + r) := by
  unfold downO
  rw [List.drop_length, List.append_nil, val_digits]
  refine ⟨fun x hx => ?_, Nat.mod_eq_of_lt ?_⟩
  · obtain ⟨i, _, rfl⟩ := List.mem_map.1 hx
    exact Nat.mod_lt _ (by omega)
  · have h1 := lt_pow_len n
    rw [hl, List.length_drop]
    rw [Nat.div_lt_iff_lt_mul (Nat.pow_pos (by omega))]
    refine Nat.lt_of_lt_of_le h1 ?_
    rw [W_pow, W_pow, ← Nat.pow_add]
    exact Nat.pow_le_pow_right (by omega) (by omega)

set_option maxRecDepth 100000 in
set_option maxHeartbeats 2000000 in
theorem down_good {w : World} {Z : Zone} {a : Value} {n b : Nat} (ha : IsN w Z a n) (hl : (limbs n).length ≤ 900000) (hb : b ≤ 65536) :
    Calls Try.prog 37 #[a, .int .i64 (b : Int)] w fun e w' => ∃ v, e = .returned (.tuple #[v, .int .i64 0]) ∧ IsN w' (new w.heap.size) v (n / 2 ^ b) ∧ Below w.heap.size w w' := by
  obtain ⟨A, c, rfl, ha⟩ := ha
  obtain ⟨q, hq⟩ : ∃ q : Nat, q = b / 64 := ⟨_, rfl⟩
  obtain ⟨r, hr⟩ : ∃ r : Nat, r = b % 64 := ⟨_, rfl⟩
  have hbq : b = 64 * q + r := by omega
  have hr64 : r < 64 := by omega
  have hq64 : q ≤ 1024 := by omega
  have eq' : (b : Int) / 64 = (q : Int) := by omega
  have er' : (b : Int) % 64 = (r : Int) := by omega
  have Hbq := Lib.hid hbq
  clear hq hr hbq
  obtain ⟨L, hL⟩ : ∃ L : Nat, L = (limbs n).length := ⟨_, rfl⟩
  have HL := Lib.hid hL
  have hL1 : L ≤ 900000 := by omega
  have hcapL : L ≤ c := by rw [hL]; exact ha.cap
  have hmaxL := ha.max
  have hask := asked_good ha hb
  obtain ⟨k, hk⟩ : ∃ k : Nat, k = min q L := ⟨_, rfl⟩
  have hkL : k ≤ L := by omega
  have hmin : min (q : Int) (L : Int) = (k : Int) := by omega
  have hdrop := ha.drop (k := k) (by omega)
  have hdq : (limbs n).drop k = (limbs n).drop q := by
    rcases Nat.le_total q L with h | h
    · rw [hk, Nat.min_eq_left h]
    · rw [hk, Nat.min_eq_right h, hL, List.drop_length, List.drop_eq_nil_of_le (by omega)]
  obtain ⟨l', hl'⟩ : ∃ l', l' = (limbs n).drop k := ⟨_, rfl⟩
  rw [← hl'] at hdrop
  have hN : L - k = l'.length := by rw [hl', List.length_drop, hL]
  have Hl' := Lib.hid (hl'.trans hdq)
  rw [← hL] at hask ⊢
  have Hask := Lib.hid hask
  have HN := Lib.hid hN
  have hN1 : l'.length ≤ 900000 := by omega
  clear hL hask hk hdq hl' hN ha
  by_cases hck : c = k
  · rw [if_pos hck] at hdrop
    have hc0 : l'.length = 0 := by have := HN.out; omega
    have hcl := clone_any (n := 0) hc0.symm hdrop (by omega)
    rw [show c - k = 0 by omega] at hcl
    have hl0 : l' = [] := List.length_eq_zero_iff.1 hc0
    obtain ⟨_, hv⟩ := down_done (r := r) Hl'.out
    rw [hl0] at hv hcl
    have Hv := Lib.hid hv
    have Hcl := Lib.hid hcl
    clear hv hcl hc0 hdrop
    subst hl0 hck
    go_enter Try.func37, Try.ntmps37
    go_wp2_with (first | (go_at_call 72; refine Hask.out.mono ?_; rintro e w' ⟨rfl, rfl⟩))
    refine Hcl.out.mono ?_
    rintro e w1 ⟨v, rfl, hown, hbel1⟩
    obtain ⟨A2, c2, rfl⟩ := own_shape hown
    have hu := isU_after (B := w.heap.size) (l := []) Small.nil rfl hown (Nat.le_refl _)
    go_wp2
    refine wp_loop_rounds 1 ?_
    rw [rounds_succ]
    go_wp2_with (go_at_call 66; refine (trim_len hu rfl).mono ?_; rintro e w' ⟨rfl, rfl⟩)
    go_ret2
    rw [Hbq.out]
    exact ⟨_, rfl, isN_trimU (by simpa [downO, val] using Hv.out) hu, hbel1⟩
  · rw [if_neg hck] at hdrop
    obtain ⟨N, hNN⟩ : ∃ N, N = L - k := ⟨_, rfl⟩
    have hcl := clone_any (n := N) (by rw [hNN]; exact HN.out) hdrop (by omega)
    have hLN : L - k = N := hNN.symm
    have Hcl := Lib.hid hcl
    have hN2 : N ≤ 900000 := by omega
    have HNl := Lib.hid (show N = l'.length by rw [hNN]; exact HN.out)
    clear hcl hdrop hNN
    go_enter Try.func37, Try.ntmps37
    go_wp2_with (first | (go_at_call 72; refine Hask.out.mono ?_; rintro e w' ⟨rfl, rfl⟩))
    refine Hcl.out.mono ?_
    rintro e w1 ⟨v, rfl, hown, hbel1⟩
    obtain ⟨A2, c2, rfl⟩ := own_shape hown
    go_wp2
    go_loopw [25] (fun i wr => ∃ j : Nat, j ≤ N ∧ i = .int .i64 j ∧ wr.ownsRow w.heap.size 62 1 (.slice A2 N c2) N ((downO n (n / 2 ^ b) l' j).map fun x : Nat => Value.int .u64 (x : Int)) ∧ Below w.heap.size w wr) (fun i _ => N - (intOf i).toNat)
    case atStart => exact ⟨0, Nat.zero_le _, rfl, by simpa [downO] using hown, hbel1⟩
    case round =>
      obtain ⟨j, hj, rfl, hown, hbel⟩ := hrel
      by_cases hlt : j < N
      · obtain ⟨g, rfl, hgb⟩ := own_form hown (by omega)
        have hjl : j < l'.length := by rw [← HNl.out]; exact hlt
        have hb2 := Hbq.out
        have hlimb := down_limb n q r j hr64
        have g0 : (limbs n)[q + j]? = l'[j]? := by rw [Hl'.out, List.getElem?_drop]
        have g1 : (limbs n)[q + j]?.getD 0 = l'[j] := by rw [g0]; simp [hjl]
        have g2 : (limbs n)[q + j + 1]?.getD 0 = l'[j + 1]?.getD 0 := by rw [Hl'.out, List.getElem?_drop, Nat.add_assoc]
        rw [g1, g2, ← hb2] at hlimb
        have hat := downO_at (n := n) (d := n / 2 ^ b) (l := l') (k := j) (j := j) (Nat.le_refl _)
        have hcell := hown.cellAt j (by omega)
        rw [List.getElem?_map, hat, List.getElem?_eq_getElem hjl] at hcell
        have hcell' : wr.cell? ⟨g, j, none⟩ = some (.int .u64 (l'[j] : Int)) := hcell
        have hfr := hown.frozenAt j
        have hst := downO_step (n := n) (d := n / 2 ^ b) hjl
        rw [hlimb] at hst
        have hxl : l'[j] < 18446744073709551616 := by have h1 : Small l' := by (rw [Hl'.out]; exact (small_limbs n).drop q)
                                                      exact h1.get hjl
        clear hcell hat g0 g1 g2 hlimb hb2
        generalize l'[j] = x at *
        obtain ⟨y, hy⟩ : ∃ y, y = x / 2 ^ r := ⟨_, rfl⟩
        have hyl : y < 18446744073709551616 := by rw [hy]; exact Nat.lt_of_le_of_lt (Nat.div_le_self _ _) hxl
        have hyi : (x : Int) / 2 ^ r = (y : Int) := by rw [hy]; simp
        rw [← hy] at hst
        have o1 := hown.stored j (.int .u64 (y : Int))
        by_cases hn1 : j + 1 < N
        · have hjl1 : j + 1 < l'.length := by rw [← HNl.out]; exact hn1
          have hat := downO_at (n := n) (d := n / 2 ^ b) (l := l') (k := j) (j := j + 1) (by omega)
          have hcell := hown.cellAt (j + 1) (by omega)
          rw [List.getElem?_map, hat, List.getElem?_eq_getElem hjl1] at hcell
          have hcell2 : wr.cell? ⟨g, j + 1, none⟩ = some (.int .u64 (l'[j + 1] : Int)) := hcell
          have e2 : l'[j + 1]?.getD 0 = l'[j + 1] := by simp [hjl1]
          rw [e2] at hst
          clear hcell hat e2
          generalize l'[j + 1] = x2 at *
          obtain ⟨t, ht⟩ : ∃ t, t = 64 - r := ⟨_, rfl⟩
          have hti : (64 : Int) - (r : Int) = (t : Int) := by omega
          rw [← ht] at hst
          obtain ⟨z, hz⟩ : ∃ z, z = x2 * 2 ^ t % 18446744073709551616 := ⟨_, rfl⟩
          have hzl : z < 18446744073709551616 := by rw [hz]; exact Nat.mod_lt _ (by omega)
          have hzi : IntKind.u64.wrap ((x2 : Int) * 2 ^ t) = (z : Int) := by rw [hz, IntKind.wrap_u64]; simp
          rw [← hz] at hst
          have hbits := bits_or_u64_nat y z hyl hzl
          have Hst := Lib.hid hst
          have ht64 : t ≤ 64 := by omega
          have ht0 : 0 < t := by omega
          clear hst hz ht hy
          go_wp2
          have hown2 := o1.1
          have hbel2 : Below w.heap.size w (wr.setCell ⟨g, j, none⟩ (.int .u64 (y : Int))) := hbel.setCell (p := ⟨g, j, none⟩) hgb _
          have hj0 : (downO n (n / 2 ^ b) l' j).length = N := by simpa using hown.1
          have c1 : (wr.setCell ⟨g, j, none⟩ (.int .u64 (y : Int))).cell? ⟨g, j, none⟩ = some (.int .u64 (y : Int)) := by
            rw [hown2.cellAt j (by omega)]
            simp [hj0, hlt]
          have c2' : (wr.setCell ⟨g, j, none⟩ (.int .u64 (y : Int))).cell? ⟨g, j + 1, none⟩ = some (.int .u64 (x2 : Int)) := by
            rw [World.cell?_setCell_other _ _ _ _ (by simp)]
            exact hcell2
          have f1 := hown2.frozenAt j
          clear hcell' hcell2 hfr hown o1 hbel hj0
          generalize wr.setCell ⟨g, j, none⟩ (.int .u64 (y : Int)) = W2 at *
          go_region
          all_goals
            go_wp2
            have o2 := hown2.stored j (.int .u64 ((y ||| z : Nat) : Int))
            go_roundw
            case rel =>
              refine ⟨j + 1, by omega, by go_num, ?_, (hbel2.setCell (p := ⟨g, j, none⟩) hgb _).drew⟩
              rw [← Hst.out, List.map_set]
              have o3 := o2.1
              rw [List.set_set] at o3
              exact o3.drew
            case measure => simp [intOf]; omega
        · have e2 : l'[j + 1]?.getD 0 = 0 := by rw [List.getElem?_eq_none (by rw [← HNl.out]; omega)]; rfl
          rw [e2] at hst
          simp only [Nat.zero_mul, Nat.zero_mod, Nat.or_zero] at hst
          have Hst := Lib.hid hst
          clear hst hy e2
          go_wp2
          go_roundw
          case rel =>
            refine ⟨j + 1, by omega, by go_num, ?_, hbel.setCell (p := ⟨g, j, none⟩) hgb _⟩
            rw [← Hst.out, List.map_set]
            exact o1.1
          case measure => simp [intOf]; omega
      · obtain rfl : j = N := by omega
        obtain ⟨hsm, hv⟩ := down_done (n := n) (q := q) (r := r) Hl'.out
        rw [← HNl.out] at hsm hv
        rw [← Hbq.out] at hsm hv
        have hlen : j = (downO n (n / 2 ^ b) l' j).length := by rw [downO_length (by rw [← HNl.out]; exact Nat.le_refl _), ← HNl.out]
        have hu := isU_after (B := w.heap.size) hsm hlen hown (Nat.le_refl _)
        have Hv := Lib.hid hv
        have Hlen := Lib.hid hlen
        clear hv hlen
        go_wp2_with (go_at_call 66; refine (trim_len hu Hlen.out).mono ?_; rintro e w' ⟨rfl, rfl⟩)
        go_ret2
        exact ⟨_, rfl, isN_trimU Hv.out hu, hbel⟩

end Go.Proofs.Ytodcjaobbnjikaa
