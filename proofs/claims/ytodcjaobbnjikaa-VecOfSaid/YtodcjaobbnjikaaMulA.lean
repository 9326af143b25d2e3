/-
  The contracts of the small functions of package mul: trim, parts, sum, rest, up. No conditions but bounds on lengths.
-/
import Derived.Test.YtodcjaobbnjikaaNatH
namespace Go.Proofs.Ytodcjaobbnjikaa
open Go.RowKit
set_option linter.unusedVariables false
set_option linter.unusedSimpArgs false

set_option maxHeartbeats 800000 in
/-- mul.trim: noughts at the end are left away; the same memory. -/
theorem mtrim_any {w : World} {Z : Zone} {A : Option Addr} {c n : Nat} {l : List Nat} (h : U64s w Z A c l) (hn : n = l.length) :
    Calls Try.prog 100 #[.slice A n c] w fun e w' => e = .returned (.slice A (limbs (val l)).length (limbs (val l)).length) ∧ w = w' := by
  subst hn
  have hlen := h.len
  have hcap := h.cap
  have hmax := h.max
  go_enter Try.func100, Try.ntmps100
  go_wp2
  go_loop [3] (fun v => ∃ k : Nat, k ≤ l.length ∧ v = .int .i64 k ∧ Hid (∀ j (hj : j < l.length), k ≤ j → l[j] = 0)) (fun v => (intOf v).toNat)
  case atStart => exact ⟨_, Nat.le_refl _, rfl, fun j hj hk => absurd hj (by omega)⟩
  case round =>
    obtain ⟨k, hk, rfl, hz⟩ := hrel
    by_cases hk0 : k = 0
    · subst hk0
      have hd : decide ((0 : Int) < ((0 : Nat) : Int)) = false := rfl
      go_wp2
      go_ret
      have e := trim_take l h.small 0 (by omega) hz.out (.inl rfl)
      rw [← e]
      exact ⟨by simp, rfl⟩
    · obtain ⟨b, o, rfl, _, _, _, hc⟩ := h.open (by omega)
      have hk1 : k - 1 < l.length := by omega
      have hx := hc (k - 1) hk1
      by_cases hl : l[k - 1] = 0
      · have hne : ((l[k - 1] : Int) == 0) = true := by simpa using hl
        have Hl := Lib.hid hl
        clear hl
        go_wp2
        go_round
        case rel =>
          refine ⟨k - 1, by omega, by rw [Int.ofNat_sub (by omega)]; rfl, fun j hj hjk => ?_⟩
          rcases Nat.lt_or_ge j k with h1 | h1
          · obtain rfl : j = k - 1 := by omega
            exact Hl.out
          · exact hz.out j hj h1
        case measure => simp [intOf]; omega
      · have hne : ((l[k - 1] : Int) == 0) = false := by simpa using hl
        have Hl := Lib.hid hl
        clear hl
        go_wp2
        go_ret
        have e := trim_take l h.small k hk hz.out (.inr ⟨hk1, Hl.out⟩)
        rw [← e]
        exact ⟨by simp; omega, rfl⟩

/-- The numbers that a variadic function is handed. -/
def Nums (w : World) (g : Nat) (ns : List Nat) : Prop := ∀ j (h : j < ns.length), ∃ v, w.cell? ⟨g, j, none⟩ = some v ∧ IsN w old v ns[j]

theorem Nums.below {w w' : World} {g : Nat} {ns : List Nat} (h : Nums w g ns) (hb : Below w.heap.size w w') : Nums w' g ns := fun j hj => by
  obtain ⟨v, hc, hv⟩ := h j hj
  exact ⟨v, (hb.cell (p := ⟨g, j, none⟩) (lt_of_cell hc)).trans hc, hv.below hb⟩

theorem nums_two {w : World} {Z Y : Zone} {a b : Value} {m n : Nat} (ha : IsN w Z a m) (hb : IsN w Y b n) : Nums (w.alloc (.cells #[a, b] 46)) w.heap.size [m, n] := by
  have hb0 : Below w.heap.size w (w.alloc (.cells #[a, b] 46)) := (Below.refl _ w).alloc (Nat.le_refl _) _
  intro j hj
  match j, hj with
  | 0, _ => exact ⟨a, cell_newest rfl rfl, ha.old.below hb0⟩
  | 1, _ => exact ⟨b, cell_newest rfl rfl, hb.old.below hb0⟩
theorem nums_three {w : World} {Z Y X : Zone} {a b c : Value} {m n k : Nat} (ha : IsN w Z a m) (hb : IsN w Y b n) (hc : IsN w X c k) : Nums (w.alloc (.cells #[a, b, c] 46)) w.heap.size [m, n, k] := by
  have hb0 : Below w.heap.size w (w.alloc (.cells #[a, b, c] 46)) := (Below.refl _ w).alloc (Nat.le_refl _) _
  intro j hj
  match j, hj with
  | 0, _ => exact ⟨a, cell_newest rfl rfl, ha.old.below hb0⟩
  | 1, _ => exact ⟨b, cell_newest rfl rfl, hb.old.below hb0⟩
  | 2, _ => exact ⟨c, cell_newest rfl rfl, hc.old.below hb0⟩

theorem sum_take_le (ns : List Nat) (k : Nat) : (ns.take k).sum ≤ ns.sum := by
  conv => rhs; rw [← List.take_append_drop k ns, List.sum_append]
  omega

set_option maxHeartbeats 800000 in
theorem sum_any {w : World} {g c n : Nat} {ns : List Nat} (h : Nums w g ns) (hn : n = ns.length) (hc : ns.length ≤ 1000) (hl : (limbs ns.sum).length ≤ 800000) :
    Calls Try.prog 98 #[.slice (some ⟨g, 0, none⟩) n c] w fun e w' => ∃ v, e = .returned v ∧ IsN w' (new w.heap.size) v ns.sum ∧ Below w.heap.size w w' := by
  have Hn := Lib.hid hn
  have hnc : n ≤ 1000 := by omega
  clear hn
  go_enter Try.func98, Try.ntmps98
  go_wp2
  go_loopw [2, 7] (fun v i wr => ∃ k : Nat, k ≤ n ∧ i = .int .i64 k ∧ IsN wr (new w.heap.size) v (ns.take k).sum ∧ Below w.heap.size w wr) (fun _ i _ => n - (intOf i).toNat)
  case atStart => exact ⟨0, Nat.zero_le _, rfl, by simpa using IsN.zero w (new w.heap.size), Below.refl _ _⟩
  case round =>
    obtain ⟨k, hk, rfl, hv, hbel⟩ := hrel
    by_cases hlt : k < n
    · have hkl : k < ns.length := by rw [← Hn.out]; exact hlt
      obtain ⟨u, hcu, hu⟩ := (h.below hbel) k hkl
      have hs : (ns.take (k + 1)).sum = (ns.take k).sum + ns[k] := by rw [List.take_succ_eq_append_getElem hkl, List.sum_append]; simp
      have l1 := Nat.le_trans (len_mono (sum_take_le ns k)) hl
      have l2 := Nat.le_trans (len_mono (show ns[k] ≤ ns.sum by have := sum_take_le ns (k + 1); omega)) hl
      have Hs := Lib.hid hs
      clear hs
      go_wp2_with fail
      refine (add_good hv hu (by omega) (by omega)).mono ?_
      rintro e w1 ⟨x, rfl, hx, hb1⟩
      go_wp2
      go_roundw
      case rel => exact ⟨k + 1, by omega, by go_num, by rw [Hs.out]; exact hx.mono (new_le hbel.size), from_ hbel hb1⟩
      case measure => simp [intOf]; omega
    · obtain rfl : k = n := by omega
      go_wp2
      go_ret
      refine ⟨_, rfl, ?_, hbel⟩
      rw [Hn.out, List.take_length] at hv
      exact hv

set_option maxHeartbeats 800000 in
theorem rest_any {w : World} {Z : Zone} {a : Value} {m g c n : Nat} {ns : List Nat} (ha : IsN w Z a m) (h : Nums w g ns) (hn : n = ns.length) (hc : ns.length ≤ 1000) (hle : ns.sum ≤ m) (hl : (limbs m).length ≤ 800000) :
    Calls Try.prog 97 #[a, .slice (some ⟨g, 0, none⟩) n c] w fun e w' => ∃ v, e = .returned v ∧ IsN w' old v (m - ns.sum) ∧ Below w.heap.size w w' := by
  have Hn := Lib.hid hn
  have hnc : n ≤ 1000 := by omega
  clear hn
  go_enter Try.func97, Try.ntmps97
  go_wp2
  go_loopw [0, 9] (fun v i wr => ∃ k : Nat, k ≤ n ∧ i = .int .i64 k ∧ IsN wr old v (m - (ns.take k).sum) ∧ Below w.heap.size w wr) (fun _ i _ => n - (intOf i).toNat)
  case atStart => exact ⟨0, Nat.zero_le _, rfl, by simpa using ha.old, Below.refl _ _⟩
  case round =>
    obtain ⟨k, hk, rfl, hv, hbel⟩ := hrel
    by_cases hlt : k < n
    · have hkl : k < ns.length := by rw [← Hn.out]; exact hlt
      obtain ⟨u, hcu, hu⟩ := (h.below hbel) k hkl
      have hs : (ns.take (k + 1)).sum = (ns.take k).sum + ns[k] := by rw [List.take_succ_eq_append_getElem hkl, List.sum_append]; simp
      have h3 := sum_take_le ns (k + 1)
      have l1 := Nat.le_trans (len_mono (Nat.sub_le m (ns.take k).sum)) hl
      have l2 := Nat.le_trans (len_mono (show ns[k] ≤ m by omega)) hl
      have h4 : ns[k] ≤ m - (ns.take k).sum := by omega
      have Hs := Lib.hid (show m - (ns.take (k + 1)).sum = m - (ns.take k).sum - ns[k] by omega)
      clear hs h3
      go_wp2_with fail
      refine (sub_good hv hu (by omega) (by omega) h4).mono ?_
      rintro e w1 ⟨x, rfl, hx, hb1⟩
      go_wp2
      go_roundw
      case rel => exact ⟨k + 1, by omega, by go_num, by rw [Hs.out]; exact hx.old, from_ hbel hb1⟩
      case measure => simp [intOf]; omega
    · obtain rfl : k = n := by omega
      go_wp2
      go_ret
      refine ⟨_, rfl, ?_, hbel⟩
      rw [Hn.out, List.take_length] at hv
      exact hv

end Go.Proofs.Ytodcjaobbnjikaa
