/-
  Common divisors: gcd.Gcd and gcd.Lcm at any words. No conditions but bounds on lengths.
-/
import Derived.Test.YtdhknjflelkghaaGreatDoorHWhK
import Derived.Test.YtdhknjflelkghaaGreatDoorHRefP
import Derived.Test.YtdhknjflelkghaaGreatDoorHClone
namespace Go.Proofs.YtdhknjflelkghaaGreatDoor
open Go.RowKit
set_option linter.unusedVariables false
set_option linter.unusedSimpArgs false

theorem IsU.uniq {w : World} {Z Y : Zone} {v : Value} {l k : List Nat} (h : IsU w Z v l) (h' : IsU w Y v k) : l = k := by
  obtain ⟨A, c, rfl, h⟩ := h
  obtain ⟨A', c', e, h'⟩ := h'
  injection e with e1 e2 e3
  subst e1 e3
  refine List.ext_getElem e2 fun j h1 h2 => ?_
  obtain ⟨b, o, e, _, _, _, hc⟩ := h.open (by omega)
  obtain ⟨b', o', e', _, _, _, hc'⟩ := h'.open (by omega)
  rw [e] at e'
  injection e' with e'
  injection e' with e1 e2
  subst e1 e2
  have h3 := (hc j h1).symm.trans (hc' j h2)
  injection h3 with h3
  injection h3 with _ h3
  exact Int.ofNat.inj h3
theorem IsN.uniq {w : World} {Z Y : Zone} {v : Value} {m n : Nat} (h : IsN w Z v m) (h' : IsN w Y v n) : m = n := by
  have := IsU.uniq h h'
  rw [← val_limbs m, this, val_limbs]

/-- The number that a value is (0: it is none). -/
noncomputable def numAt (w : World) (v : Value) : Nat := by
  classical
  exact if h : ∃ n, IsN w old v n then Classical.choose h else 0
theorem numAt_eq {w : World} {Z : Zone} {v : Value} {n : Nat} (h : IsN w Z v n) : numAt w v = n := by
  have h1 : ∃ n, IsN w old v n := ⟨n, h.old⟩
  unfold numAt
  rw [dif_pos h1]
  exact (Classical.choose_spec h1).uniq h

set_option maxHeartbeats 400000 in
theorem gchecked_good {w : World} {g : Nat} {ls : List (List Nat)} {c : Nat} (h : Given w g ls) (hn : ls.length ≤ 1000) (hg : ∀ l ∈ ls, good l = true) :
    Calls Tryz.prog 32 #[.slice (some ⟨g, 0, none⟩) ls.length c] w fun e w' => e = .returned (.int .i64 0) ∧ w = w' := by
  go_enter Tryz.func32, Tryz.ntmps32
  go_wp2
  go_loop [8] (fun i => ∃ k : Nat, k ≤ ls.length ∧ i = .int .i64 k) (fun i => ls.length - (intOf i).toNat)
  case atStart => exact ⟨0, Nat.zero_le _, rfl⟩
  case round =>
    obtain ⟨k, hk, rfl⟩ := hrel
    by_cases hlt : k < ls.length
    · obtain ⟨A, c', hc, hu⟩ := h k hlt
      have hgk := hg ls[k] (List.getElem_mem hlt)
      go_wp2_with (go_at_call 28; refine (check_good hu hgk).mono ?_; rintro e w' ⟨rfl, rfl⟩)
      go_round
      case rel => exact ⟨k + 1, by omega, by go_num⟩
      case measure => simp [intOf]; omega
    · go_wp2
      go_ret
      exact ⟨rfl, rfl⟩


set_option maxHeartbeats 400000 in
theorem gchecked_bad {w : World} {g : Nat} {ls : List (List Nat)} {c : Nat} (h : Given w g ls) (hn : ls.length ≤ 1000) (hg : ∃ l ∈ ls, good l = false) :
    Calls Tryz.prog 32 #[.slice (some ⟨g, 0, none⟩) ls.length c] w fun e w' => e = .returned (.int .i64 8) ∧ w = w' := by
  go_enter Tryz.func32, Tryz.ntmps32
  go_wp2
  go_loop [8] (fun i => ∃ k : Nat, k ≤ ls.length ∧ i = .int .i64 k ∧ ∀ j (hj : j < ls.length), j < k → good ls[j] = true) (fun i => ls.length - (intOf i).toNat)
  case atStart => exact ⟨0, Nat.zero_le _, rfl, fun j _ hj => absurd hj (by omega)⟩
  case round =>
    obtain ⟨k, hk, rfl, hall⟩ := hrel
    have Hall := Lib.hid hall
    clear hall
    by_cases hlt : k < ls.length
    · obtain ⟨A, c', hc, hu⟩ := h k hlt
      cases hgk : good ls[k] with
      | true =>
        have Hgk := Lib.hid hgk
        clear hgk
        go_wp2_with (go_at_call 28; refine (check_good hu Hgk.out).mono ?_; rintro e w' ⟨rfl, rfl⟩)
        go_round
        case rel =>
          refine ⟨k + 1, by omega, by go_num, fun j hj hjk => ?_⟩
          rcases Nat.lt_or_ge j k with h1 | h1
          · exact Hall.out j hj h1
          · obtain rfl : j = k := by omega
            exact Hgk.out
        case measure => simp [intOf]; omega
      | false =>
        have Hgk := Lib.hid hgk
        clear hgk
        go_wp2_with (go_at_call 28; refine (check_bad hu Hgk.out).mono ?_; rintro e w' ⟨rfl, rfl⟩)
        go_ret
        exact ⟨rfl, rfl⟩
    · obtain ⟨l, hl, hbad⟩ := hg
      obtain ⟨j, hj, rfl⟩ := List.getElem_of_mem hl
      rw [Hall.out j hj (by omega)] at hbad
      cases hbad


def gcdL (la lb : List Nat) : List Nat := if good la = true ∧ good lb = true then limbs (Nat.gcd (val la) (val lb)) else []
def lcmL (la lb : List Nat) : List Nat := if good la = true ∧ good lb = true then limbs (Nat.lcm (val la) (val lb)) else []

end Go.Proofs.YtdhknjflelkghaaGreatDoor
