/-
  The document's own answer, layer 1: the number of a list of bits (From). No conditions but bounds on lengths.
-/
import Derived.Test.YtodcjaobbnjikaaRefA
import Derived.Test.YtodcjaobbnjikaaDown
import Derived.Test.YtodcjaobbnjikaaMulNum
import Derived.RangeFuncBox
namespace Go.Proofs.Ytodcjaobbnjikaa
open Go.RowKit
set_option linter.unusedVariables false
set_option linter.unusedSimpArgs false

/-- The number of bits, the lowest first. -/
def bval : List Nat → Nat
  | [] => 0
  | b :: t => b + 2 * bval t

theorem bval_append (l r : List Nat) : bval (l ++ r) = bval l + 2 ^ l.length * bval r := by
  induction l with
  | nil => simp [bval]
  | cons b t ih =>
    rw [List.cons_append, bval, bval, ih, List.length_cons, Nat.pow_succ]
    grind
theorem bval_zero (l : List Nat) (h : ∀ x ∈ l, x = 0) : bval l = 0 := by
  induction l with
  | nil => rfl
  | cons b t ih =>
    rw [bval, ih (fun x hx => h x (List.mem_cons_of_mem _ hx)), h b (List.mem_cons_self ..)]
theorem bval_lt (l : List Nat) (h : ∀ x ∈ l, x ≤ 1) : bval l < 2 ^ l.length := by
  induction l with
  | nil => simp [bval]
  | cons b t ih =>
    have h1 := ih (fun x hx => h x (List.mem_cons_of_mem _ hx))
    have h2 := h b (List.mem_cons_self ..)
    rw [bval, List.length_cons, Nat.pow_succ]
    omega
theorem bval_take_succ {l : List Nat} {k : Nat} (h : k < l.length) : bval (l.take (k + 1)) = bval (l.take k) + 2 ^ k * l[k] := by
  rw [List.take_succ_eq_append_getElem h, bval_append, List.length_take, Nat.min_eq_left (by omega)]
  simp [bval]

/-- 'append(s, u)', s a row of the call's own. -/
theorem wpList_app1 {P : Program} (w : World) {ops : Array Oper} {rest : List Oper} {o : Oper} {a : Act} {Q : Exit → Act → World → Prop} (hgd : o.guard = none) (s x : Operand) (t : TypeId)
    (ho : o.op = .call { callee := .builtin .append, args := #[s, x], argTypes := #[t, t] })
    (base : Nat) (e : TypeId) (i : TypeInfo) (z : Value) (ht : P.underlying t = some (.slice e)) (hi : P.info? e = some i) (hz : i.zero = some z) (hsize : i.size = 1) (hby : i.bytes = 8) (hzs : z.cells.size = 1)
    (v : Value) (n : Nat) (xs : List Value) (hs : a.eval s = v) (hown : w.ownsRow base e 1 v n xs)
    (g : Nat) (u : Value) (hx : a.eval x = .slice (some ⟨g, 0, none⟩) 1 1) (hu : w.cell? ⟨g, 0, none⟩ = some u) (h1 : u.oneCell' = true)
    (hb : n + 1 ≤ 1000000000) (hbase : base ≤ w.heap.size)
    (h : ∀ v' w', w'.ownsRow base e 1 v' (n + 1) (xs ++ [u]) → w.grownBy w' v.ownBlock → wpList P ops Q rest (a.put o.dst v') w') : wpList P ops Q (o :: rest) a w := by
  refine wpList_append_own w hgd s x t ho base e i z 1 8 ht hi hz hsize hby hzs (by omega) v n xs hs hown ⟨g, 0, none⟩ 1 1 [u] hx rfl ?_ ?_ (by simp only [maxLen]; omega) (by omega) hbase (fun v' w' h2 h3 _ => h v' w' h2 h3)
  · intro j y hy
    match j, hy with
    | 0, hy => cases hy; exact hu
  · intro y hy
    rw [List.mem_singleton.1 hy]
    exact h1

/-- A slice of ints that are bits. -/
def Bits (w : World) (v : Value) (bs : List Nat) : Prop := ∃ A c, v = .slice A bs.length c ∧ bs.length ≤ c ∧ c ≤ 9223372036854775807 ∧ (∀ x ∈ bs, x ≤ 1) ∧
  (0 < bs.length → ∃ b o, A = some ⟨b, o, none⟩ ∧ b < w.heap.size ∧ ∀ j (hj : j < bs.length), w.cell? ⟨b, o + j, none⟩ = some (.int .i64 (bs[j] : Int)))

/-- After k bits. -/
structure FromI (bs : List Nat) (k : Nat) (ws : List Nat) : Prop where
  small : Small ws
  len : ws.length = (k + 63) / 64
  val : val ws = bval (bs.take k)

theorem FromI.start (bs : List Nat) : FromI bs 0 [] := ⟨Small.nil, rfl, rfl⟩
/-- The word of bit k is there. -/
structure FromJ (bs : List Nat) (k : Nat) (ws : List Nat) : Prop where
  small : Small ws
  len : ws.length = k / 64 + 1
  val : val ws = bval (bs.take k)

theorem FromI.more {bs ws : List Nat} {k : Nat} (h : FromI bs k ws) (hk : k % 64 = 0) : FromJ bs k (ws ++ [0]) := by
  refine ⟨h.small.append (Small.cons (by omega) Small.nil), ?_, ?_⟩
  · rw [List.length_append, h.len, List.length_singleton]
    omega
  · rw [val_append, h.val]
    simp [Go.Proofs.Ytodcjaobbnjikaa.val]
theorem FromI.go {bs ws : List Nat} {k : Nat} (h : FromI bs k ws) (hk : k % 64 ≠ 0) : FromJ bs k ws := ⟨h.small, by rw [h.len]; omega, h.val⟩

theorem FromJ.zero {bs ws : List Nat} {k : Nat} (h : FromJ bs k ws) (hk : k < bs.length) (h0 : bs[k] = 0) : FromI bs (k + 1) ws := by
  refine ⟨h.small, by rw [h.len]; omega, ?_⟩
  rw [h.val, bval_take_succ hk, h0, Nat.mul_zero, Nat.add_zero]

theorem pow_split (k : Nat) : 2 ^ k = 18446744073709551616 ^ (k / 64) * 2 ^ (k % 64) := by
  rw [W_pow, ← Nat.pow_add, Nat.div_add_mod]

theorem FromJ.bound {bs ws : List Nat} {k : Nat} (h : FromJ bs k ws) (hk : k < bs.length) (h1 : ∀ x ∈ bs, x ≤ 1) (hq : k / 64 < ws.length) : ws[k / 64] + 2 ^ (k % 64) < 18446744073709551616 := by
  have e := val_set ws (k / 64) 0 hq
  rw [Nat.mul_zero, Nat.add_zero, h.val] at e
  have l := bval_lt (bs.take k) (fun x hx => h1 x (List.mem_of_mem_take hx))
  rw [List.length_take, Nat.min_eq_left (by omega), pow_split] at l
  have hlt : 18446744073709551616 ^ (k / 64) * ws[k / 64] < 18446744073709551616 ^ (k / 64) * 2 ^ (k % 64) := by omega
  have h2 := Nat.lt_of_mul_lt_mul_left hlt
  have h3 : 2 ^ (k % 64) ≤ 2 ^ 63 := Nat.pow_le_pow_right (by omega) (by omega)
  omega

theorem FromJ.one {bs ws : List Nat} {k : Nat} (h : FromJ bs k ws) (hk : k < bs.length) (h1 : ∀ x ∈ bs, x ≤ 1) (hb : bs[k] = 1) (hq : k / 64 < ws.length) : FromI bs (k + 1) (ws.set (k / 64) (ws[k / 64] + 2 ^ (k % 64))) := by
  refine ⟨small_set h.small _ _ (h.bound hk h1 hq), by rw [List.length_set, h.len]; omega, ?_⟩
  have e := val_set ws (k / 64) (ws[k / 64] + 2 ^ (k % 64)) hq
  rw [Nat.mul_add, ← pow_split, h.val] at e
  rw [bval_take_succ hk, hb, Nat.mul_one]
  omega

theorem FromJ.put {bs ws : List Nat} {k q r s : Nat} (h : FromJ bs k ws) (hk : k < bs.length) (h1 : ∀ x ∈ bs, x ≤ 1) (hb : bs[k] = 1) (hq : q = k / 64) (hr : r = k % 64) (hs : s = 2 ^ r) :
    ∃ x, ws[q]? = some x ∧ x + s < 18446744073709551616 ∧ FromI bs (k + 1) (ws.set q (x + s)) := by
  subst hq hr hs
  have hq : k / 64 < ws.length := by rw [h.len]; omega
  exact ⟨ws[k / 64], List.getElem?_eq_getElem hq, h.bound hk h1 hq, h.one hk h1 hb hq⟩

theorem FromI.done {bs ws : List Nat} {k : Nat} (h : FromI bs k ws) (hk : k ≤ bs.length) (hz : ∀ j (hj : j < bs.length), k ≤ j → bs[j] = 0) (ht : k = 0 ∨ ∃ h : k - 1 < bs.length, bs[k - 1] ≠ 0) (h1 : ∀ x ∈ bs, x ≤ 1) : ws = limbs (bval bs) := by
  have e : bval bs = bval (bs.take k) := by
    conv => lhs; rw [← List.take_append_drop k bs, bval_append]
    rw [bval_zero (bs.drop k), Nat.mul_zero, Nat.add_zero]
    intro x hx
    obtain ⟨j, hj, rfl⟩ := List.getElem_of_mem hx
    rw [List.getElem_drop]
    exact hz _ (by rw [List.length_drop] at hj; omega) (by omega)
  rw [e, ← h.val]
  have hlen := h.len
  rcases ht with rfl | ⟨h2, h3⟩
  · obtain rfl : ws = [] := List.length_eq_zero_iff.1 hlen
    rfl
  · by_cases hk0 : k = 0
    · subst hk0
      obtain rfl : ws = [] := List.length_eq_zero_iff.1 hlen
      rfl
    · have hp : 0 < ws.length := by omega
      refine (limbs_val ws h.small ?_).symm
      rw [good_last hp]
      have h4 : bs[k - 1] = 1 := by have := h1 _ (List.getElem_mem h2); omega
      have h5 := bval_take_succ h2
      rw [h4, Nat.mul_one, Nat.sub_add_cancel (by omega), ← h.val] at h5
      rw [bne_iff_ne]
      intro h6
      have h7 := val_take_drop ws (ws.length - 1)
      have h8 : ws.drop (ws.length - 1) = [ws[ws.length - 1]] := by
        rw [List.drop_eq_getElem_cons (by omega), Nat.sub_add_cancel hp, List.drop_length]
      rw [h8, h6] at h7
      simp only [Go.Proofs.Ytodcjaobbnjikaa.val, Nat.mul_zero, Nat.add_zero] at h7
      have h9 := val_lt (l := ws.take (ws.length - 1)) (h.small.take _)
      rw [h7, List.length_take, Nat.min_eq_left (by omega), W_pow] at h9
      have h10 : 2 ^ (64 * (ws.length - 1)) ≤ 2 ^ (k - 1) := Nat.pow_le_pow_right (by omega) (by omega)
      omega

set_option maxRecDepth 100000 in
set_option maxHeartbeats 1000000 in
theorem from_any {w : World} {v : Value} {bs : List Nat} (hb : Bits w v bs) (hl : bs.length ≤ 1000000) :
    Calls Try.prog 76 #[v] w fun e w' => ∃ u, e = .returned u ∧ IsN w' (new w.heap.size) u (bval bs) ∧ Below w.heap.size w w' := by
  obtain ⟨A, c, rfl, hcap, hmax, hbit, hrow⟩ := hb
  obtain ⟨i0, hi, hz0, hz1, hz2⟩ := info_parts Try.info62
  go_enter Try.func76, Try.ntmps76
  go_wp2
  go_loop [3] (fun v => ∃ k : Nat, k ≤ bs.length ∧ v = .int .i64 k ∧ Hid (∀ j (hj : j < bs.length), k ≤ j → bs[j] = 0)) (fun v => (intOf v).toNat)
  case atStart => exact ⟨_, Nat.le_refl _, rfl, fun j hj hk => absurd hj (by omega)⟩
  case round =>
    obtain ⟨k, hk, rfl, hz⟩ := hrel
    by_cases hk0 : k = 0 ∨ ∃ h : k - 1 < bs.length, bs[k - 1] ≠ 0
    · have Hk0 := Lib.hid hk0
      have hfact : (k = 0) ∨ (k ≠ 0 ∧ ∃ b o, A = some ⟨b, o, none⟩ ∧ ∃ x : Nat, w.cell? ⟨b, o + (k - 1), none⟩ = some (.int .i64 (x : Int)) ∧ ((x : Int) == 0) = false) := by
        rcases hk0 with h | ⟨h1, h2⟩
        · exact .inl h
        · by_cases h : k = 0
          · exact .inl h
          · obtain ⟨b, o, e, hbw, hc⟩ := hrow (by omega)
            exact .inr ⟨h, b, o, e, bs[k - 1], hc (k - 1) h1, beq_eq_false_iff_ne.2 (by omega)⟩
      have Hrow := Lib.hid hrow
      clear hk0 hrow
      rcases hfact with rfl | ⟨hk2, b, o, rfl, x, hx, hd⟩
      · have hv0 : bval bs = 0 := bval_zero bs fun x hx => by
          obtain ⟨j, hj, rfl⟩ := List.getElem_of_mem hx
          exact hz.out j hj (Nat.zero_le _)
        go_wp2
        go_loop [4, 5] (fun u v => u = .slice none 0 0 ∧ v = .int .i64 0) (fun _ v => (intOf v).toNat)
        case atStart => exact ⟨rfl, rfl⟩
        case round =>
          obtain ⟨rfl, rfl⟩ := hrel
          go_wp2
          go_ret
          exact ⟨_, rfl, IsN.zero _ _, Below.refl _ _⟩
      · go_wp2
        go_loopw [4, 5] (fun v i wr => ∃ (j : Nat) (ws : List Nat), j ≤ k ∧ i = .int .i64 j ∧ wr.ownsRow w.heap.size 62 1 v ws.length (ws.map fun x : Nat => Value.int .u64 (x : Int)) ∧ FromI bs j ws ∧ Below w.heap.size w wr) (fun _ i _ => k - (intOf i).toNat)
        case atStart => exact ⟨0, [], Nat.zero_le _, rfl, World.ownsRow_nil _ _ _ _, FromI.start bs, Below.refl _ _⟩
        case round =>
          obtain ⟨i, ws, hi1, rfl, hown, hinv, hbel⟩ := hrel
          by_cases hlt : i < k
          · have hib : i < bs.length := by omega
            obtain ⟨b2, o2, e2, hbw, hc⟩ := Hrow.out (by omega)
            injection e2 with e2
            injection e2 with e3 e4
            subst e3 e4
            have hx2 := (hbel.cell (p := ⟨b, o + i, none⟩) hbw).trans (hc i hib)
            obtain ⟨q, hq⟩ : ∃ q, q = i / 64 := ⟨_, rfl⟩
            obtain ⟨r, hr⟩ : ∃ r, r = i % 64 := ⟨_, rfl⟩
            have hqi : (i : Int) / 64 = (q : Int) := by omega
            have hri : (i : Int) % 64 = (r : Int) := by omega
            have hr64 : r < 64 := by omega
            have hq2 : q ≤ 1000000 := by omega
            have hwl : ws.length ≤ 1000000 := by rw [hinv.len]; omega
            obtain ⟨s, hs⟩ : ∃ s : Nat, s = 2 ^ r := ⟨_, rfl⟩
            have hsl : s < 18446744073709551616 := by
              have : 2 ^ r < 2 ^ 64 := Nat.pow_lt_pow_right (by omega) hr64
              omega
            have hw2 : IntKind.u64.wrap ((2 : Int) ^ r) = (s : Int) := by rw [hs, IntKind.wrap_u64]; rw [show ((2 : Int) ^ r) = ((2 ^ r : Nat) : Int) by simp]; omega
            have hb01 := hbit _ (List.getElem_mem hib)
            have HX := Lib.hid (hc i hib)
            by_cases hr0 : r = 0
            · have hm : ((r : Int) == 0) = true := by rw [hr0]; rfl
              have hmore := hinv.more (by omega)
              rcases (show bs[i] = 0 ∨ bs[i] = 1 by omega) with hy | hy
              · rw [hy] at HX
                have hst := Lib.hid (hmore.zero hib hy)
                clear hq hr hs hr0 hmore hinv hy hb01 hc hx2 hw2
                go_wp2_with (at_builtin; go_loud (refine wpList_app1 _ rfl _ _ 46 rfl w.heap.size 62 i0 (.int .u64 0) Try.underlying46 hi hz0 hz1 hz2 rfl _ _ _ rfl (hown.alloc _) wr.heap.size (.int .u64 0) rfl (cell_newest rfl rfl) rfl (by omega) (by have := hbel.size; simp; omega) ?_); intro v' w1 hown' hgrow; go_loud (obtain ⟨g, cap, rfl⟩ := ownsRow_succ hown'); go_loud (have hb1 : Below w.heap.size w w1 := (hbel.alloc hbel.size _).grown hgrow (by have := hbel.size; simp; omega) (own_nil_of hown)); go_loud (have hx3 := (hb1.cell (p := ⟨b, o + i, none⟩) hbw).trans HX.out))
                go_roundw
                case rel => exact ⟨i + 1, _, by omega, by go_num, by simpa using hown', hst.out, hb1⟩
                case measure => simp [intOf]; omega
              · rw [hy] at HX
                obtain ⟨y, hyq, hyl, hput⟩ := hmore.put hib hbit hy hq hr hs
                have hlen : ws.length = q := by have := hmore.len; simp at this; omega
                have Hput := Lib.hid hput
                replace hyq := Lib.hid hyq
                have hql : q < ws.length + 1 := by omega
                clear hq hr hs hr0 hmore hinv hy hb01 hc hx2 hput
                go_wp2_with (at_builtin; go_loud (refine wpList_app1 _ rfl _ _ 46 rfl w.heap.size 62 i0 (.int .u64 0) Try.underlying46 hi hz0 hz1 hz2 rfl _ _ _ rfl (hown.alloc _) wr.heap.size (.int .u64 0) rfl (cell_newest rfl rfl) rfl (by omega) (by have := hbel.size; simp; omega) ?_); intro v' w1 hown' hgrow; go_loud (obtain ⟨g, cap, rfl⟩ := ownsRow_succ hown'); go_loud (have hb1 : Below w.heap.size w w1 := (hbel.alloc hbel.size _).grown hgrow (by have := hbel.size; simp; omega) (own_nil_of hown)); go_loud (have hx3 := (hb1.cell (p := ⟨b, o + i, none⟩) hbw).trans HX.out); go_loud (have hown2 : w1.ownsRow w.heap.size 62 1 (.slice (some ⟨g, 0, none⟩) (ws.length + 1) cap) (ws.length + 1) ((ws ++ [0]).map fun x : Nat => Value.int .u64 (x : Int)) := by simpa using hown'); go_loud (have hcell : w1.cell? ⟨g, q, none⟩ = some (.int .u64 (y : Int)) := by (have h0 := hown2.cellAt q (by omega); rw [List.getElem?_map, hyq.out] at h0; exact h0)); have hfr := hown2.frozenAt q)
                go_wp2
                have hgb : w.heap.size ≤ g := (own_form hown2 (by omega)).elim fun g' h => by have := h.1; injection this with this; injection this with this; omega
                have o1 := hown2.stored q (.int .u64 ((y + s : Nat) : Int))
                go_region
                all_goals
                  go_wp2
                  go_roundw
                  case rel =>
                    refine ⟨i + 1, (ws ++ [0]).set q (y + s), by omega, by go_num, ?_, Hput.out, (hb1.setCell (p := ⟨g, q, none⟩) hgb _).drew⟩
                    have o2 := o1.1.drew
                    rw [show (y : Int) + (s : Int) = ((y + s : Nat) : Int) by omega, List.map_set]
                    simpa [hlen] using o2
                  case measure => simp [intOf]; omega
            · have hm : ((r : Int) == 0) = false := beq_eq_false_iff_ne.2 (by omega)
              have hmore := hinv.go (by omega)
              rcases (show bs[i] = 0 ∨ bs[i] = 1 by omega) with hy | hy
              · rw [hy] at hx2
                have hst := Lib.hid (hmore.zero hib hy)
                clear hq hr hs hr0 hmore hinv hy hb01 hc hw2
                go_wp2
                go_roundw
                case rel => exact ⟨i + 1, _, by omega, by go_num, hown, hst.out, hbel⟩
                case measure => simp [intOf]; omega
              · rw [hy] at hx2
                obtain ⟨y, hyq, hyl, hput⟩ := hmore.put hib hbit hy hq hr hs
                have hlen : ws.length = q + 1 := by have := hmore.len; omega
                have Hput := Lib.hid hput
                obtain ⟨A2, c2, rfl⟩ := own_shape hown
                obtain ⟨g, rfl, hgb⟩ := own_form hown (by omega)
                have hcell : wr.cell? ⟨g, q, none⟩ = some (.int .u64 (y : Int)) := by
                  have h0 := hown.cellAt q (by omega)
                  rw [List.getElem?_map, hyq] at h0
                  exact h0
                have hfr := hown.frozenAt q
                have o1 := hown.stored q (.int .u64 ((y + s : Nat) : Int))
                have hql : q < ws.length := by omega
                clear hyq hq hr hs hr0 hmore hinv hy hb01 hc hput
                go_wp2
                go_region
                all_goals
                  go_wp2
                  go_roundw
                  case rel =>
                    refine ⟨i + 1, ws.set q (y + s), by omega, by go_num, ?_, Hput.out, (hbel.setCell (p := ⟨g, q, none⟩) hgb _).drew⟩
                    have o2 := o1.1.drew
                    rw [show (y : Int) + (s : Int) = ((y + s : Nat) : Int) by omega, List.map_set]
                    simpa [hlen] using o2
                  case measure => simp [intOf]; omega
          · obtain rfl : i = k := by omega
            have hl := hinv.done hk hz.out Hk0.out hbit
            obtain ⟨A2, c2, rfl⟩ := own_shape hown
            have hu := isU_after (B := w.heap.size) hinv.small rfl hown (Nat.le_refl _)
            have Hl := Lib.hid hl
            clear hl hinv hown
            go_wp2
            go_ret
            refine ⟨_, rfl, ⟨A2, c2, by rw [← Hl.out]; rfl, by rw [← Hl.out]; exact hu⟩, hbel⟩
    · have hk1 : k - 1 < bs.length ∧ k ≠ 0 := by
        constructor
        · rcases Nat.lt_or_ge (k - 1) bs.length with h | h
          · exact h
          · exact absurd (.inl (by omega)) hk0
        · exact fun h => hk0 (.inl h)
      obtain ⟨hk1, hk2⟩ := hk1
      obtain ⟨b, o, rfl, hbw, hc⟩ := hrow (by omega)
      have hx := hc (k - 1) hk1
      have hl0 : bs[k - 1] = 0 := Decidable.byContradiction fun h => hk0 (.inr ⟨hk1, h⟩)
      have hd : ((bs[k - 1] : Int) == 0) = true := by rw [hl0]; rfl
      have Hl := Lib.hid hl0
      obtain ⟨x, hxx⟩ : ∃ x, x = bs[k - 1] := ⟨_, rfl⟩
      rw [← hxx] at hx hd
      clear hl0 hk0 hc hxx
      go_wp2
      go_round
      case rel =>
        refine ⟨k - 1, by omega, by rw [Int.ofNat_sub (by omega)]; rfl, fun j hj hjk => ?_⟩
        rcases Nat.lt_or_ge j k with h1 | h1
        · obtain rfl : j = k - 1 := by omega
          exact Hl.out
        · exact hz.out j hj h1
      case measure => simp [intOf]; omega

end Go.Proofs.Ytodcjaobbnjikaa
