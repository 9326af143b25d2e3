/-
  The contracts of the small functions of package nat. No conditions.
-/
import Derived.Test.YtennphechbngcaaProg
import Derived.Deep.QuietTactic
import Derived.BigQuiet
import Derived.Lib.Hide
import Derived.Test.YtennphechbngcaaMMem
namespace Go.Proofs.Ytennphechbngcaa
open Go.RowKit
set_option linter.unusedVariables false
set_option linter.unusedSimpArgs false

set_option maxHeartbeats 400000 in
theorem check_good {w : World} {Z : Zone} {A : Option Addr} {c : Nat} {l : List Nat} (h : U64s w Z A c l) (hg : good l = true) :
    Calls Try.prog 71 #[.slice A l.length c] w fun e w' => e = .returned (.int .i64 0) ∧ w = w' := by
  have hb := h.len
  rcases Nat.eq_zero_or_pos l.length with h0 | h0
  · have hd : decide ((0 : Int) < (l.length : Int)) = false := by simp [h0]
    go_enter Try.func71, Try.ntmps71
    go_wp2
    go_ret
    exact ⟨rfl, rfl⟩
  · obtain ⟨b, o, rfl, _, _, _, hc⟩ := h.open h0
    have hx := hc (l.length - 1) (by omega)
    rw [good_last h0, bne_iff_ne] at hg
    have hne : ((l[l.length - 1] : Int) == 0) = false := by simpa using hg
    go_enter Try.func71, Try.ntmps71
    go_wp2
    go_ret
    exact ⟨rfl, rfl⟩

set_option maxHeartbeats 400000 in
theorem check_bad {w : World} {Z : Zone} {A : Option Addr} {c : Nat} {l : List Nat} (h : U64s w Z A c l) (hg : good l = false) :
    Calls Try.prog 71 #[.slice A l.length c] w fun e w' => e = .returned (.int .i64 8) ∧ w = w' := by
  have hb := h.len
  have h0 : 0 < l.length := by
    rcases Nat.eq_zero_or_pos l.length with h0 | h0
    · rw [List.length_eq_zero_iff] at h0; subst h0; cases hg
    · exact h0
  obtain ⟨b, o, rfl, _, _, _, hc⟩ := h.open h0
  have hx := hc (l.length - 1) (by omega)
  rw [good_last h0] at hg
  have hne : ((l[l.length - 1] : Int) == 0) = true := by simpa using hg
  go_enter Try.func71, Try.ntmps71
  go_wp2
  go_ret
  exact ⟨rfl, rfl⟩

/-- The values that 'nat.checked' is handed. -/
def Given (w : World) (g : Nat) (ls : List (List Nat)) : Prop :=
  ∀ j (h : j < ls.length), ∃ A c, w.cell? ⟨g, j, none⟩ = some (.slice A (ls[j]).length c) ∧ U64s w old A c ls[j]

set_option maxHeartbeats 400000 in
theorem checked_good {w : World} {g : Nat} {ls : List (List Nat)} {c : Nat} (h : Given w g ls) (hn : ls.length ≤ 1000) (hg : ∀ l ∈ ls, good l = true) :
    Calls Try.prog 107 #[.slice (some ⟨g, 0, none⟩) ls.length c] w fun e w' => e = .returned (.int .i64 0) ∧ w = w' := by
  go_enter Try.func107, Try.ntmps107
  go_wp2
  go_loop [8] (fun i => ∃ k : Nat, k ≤ ls.length ∧ i = .int .i64 k) (fun i => ls.length - (intOf i).toNat)
  case atStart => exact ⟨0, Nat.zero_le _, rfl⟩
  case round =>
    obtain ⟨k, hk, rfl⟩ := hrel
    by_cases hlt : k < ls.length
    · obtain ⟨A, c', hc, hu⟩ := h k hlt
      have hgk := hg ls[k] (List.getElem_mem hlt)
      go_wp2_with (go_at_call 71; refine (check_good hu hgk).mono ?_; rintro e w' ⟨rfl, rfl⟩)
      go_round
      case rel => exact ⟨k + 1, by omega, by go_num⟩
      case measure => simp [intOf]; omega
    · go_wp2
      go_ret
      exact ⟨rfl, rfl⟩


set_option maxHeartbeats 400000 in
theorem clip_any {w : World} {A : Option Addr} {n c : Nat} (hn : n ≤ c) (hc : c ≤ 9223372036854775807) (hA : A = none → c = 0) :
    Calls Try.prog 103 #[.slice A n c] w fun e w' => e = .returned (.slice A n n) ∧ w = w' := by
  go_enter Try.func103, Try.ntmps103
  go_wp2
  go_ret
  exact ⟨rfl, rfl⟩


theorem trim_take (l : List Nat) (hs : Small l) (k : Nat) (hk : k ≤ l.length) (hz : ∀ j (hj : j < l.length), k ≤ j → l[j] = 0) (hg : k = 0 ∨ ∃ h : k - 1 < l.length, l[k - 1] ≠ 0) : l.take k = limbs (val l) := by
  have e : l = l.take k ++ List.replicate (l.length - k) 0 := by
    apply List.ext_getElem
    · simp; omega
    · intro j h1 h2
      by_cases hj : j < k
      · rw [List.getElem_append_left (by simp; omega)]; simp
      · rw [List.getElem_append_right (by simp; omega)]; simp [hz j h1 (by omega)]
  have hv : val l = val (l.take k) := by
    have h1 : val l = val (l.take k ++ List.replicate (l.length - k) 0) := congrArg val e
    rw [h1, val_append, val_replicate0]
    simp
  rw [hv, limbs_val _ (hs.take k)]
  rcases hg with rfl | ⟨h1, h2⟩
  · simp [good]
  · have hl : (l.take k).length = k := by simp; omega
    by_cases hk0 : k = 0
    · subst hk0; simp [good]
    · rw [good_last (by omega)]
      simp [hl, h2]

set_option maxHeartbeats 400000 in
/-- nat.trim: noughts at the end are left away; the same memory. -/
theorem trim_any {w : World} {Z : Zone} {A : Option Addr} {c : Nat} {l : List Nat} (h : U64s w Z A c l) :
    Calls Try.prog 95 #[.slice A l.length c] w fun e w' => e = .returned (.slice A (limbs (val l)).length (limbs (val l)).length) ∧ w = w' := by
  have hlen := h.len
  have hcap := h.cap
  have hmax := h.max
  have hnul := Lib.hid h.nul
  go_enter Try.func95, Try.ntmps95
  go_wp2
  go_loop [0] (fun v => ∃ k : Nat, k ≤ l.length ∧ v = .slice A k c ∧ Hid (∀ j (hj : j < l.length), k ≤ j → l[j] = 0)) (fun v => match v with | .slice _ k _ => k | _ => 0)
  case atStart => exact ⟨_, Nat.le_refl _, rfl, fun j hj hk => absurd hj (by omega)⟩
  case round =>
    obtain ⟨k, hk, rfl, hz⟩ := hrel
    by_cases hk0 : k = 0
    · subst hk0
      have hd : decide ((0 : Int) < ((0 : Nat) : Int)) = false := rfl
      go_wp2_with (go_at_call 103; refine (clip_any (by omega) (by omega) hnul.out).mono ?_; rintro e w' ⟨rfl, rfl⟩)
      go_ret
      have e := trim_take l h.small 0 (by omega) hz.out (.inl rfl)
      rw [← e]
      exact ⟨by simp, rfl⟩
    · obtain ⟨b, o, rfl, _, _, _, hc⟩ := h.open (by omega)
      have hk1 : k - 1 < l.length := by omega
      have hx := hc (k - 1) hk1
      by_cases hl : l[k - 1] = 0
      · have hne : ((l[k - 1] : Int) == 0) = true := by simpa using hl
        have Hl := Lib.hid hl
        clear hl
        go_wp2
        go_round
        case rel =>
          refine ⟨k - 1, by omega, ?_, fun j hj hjk => ?_⟩
          · rfl
          · rcases Nat.lt_or_ge j k with h1 | h1
            · obtain rfl : j = k - 1 := by omega
              exact Hl.out
            · exact hz.out j hj h1
        case measure =>
          show k - 1 < k
          omega
      · have hne : ((l[k - 1] : Int) == 0) = false := by simpa using hl
        have Hl := Lib.hid hl
        clear hl
        go_wp2_with (go_at_call 103; refine (clip_any (by omega) (by omega) hnul.out).mono ?_; rintro e w' ⟨rfl, rfl⟩)
        go_ret
        have e := trim_take l h.small k hk hz.out (.inr ⟨hk1, Hl.out⟩)
        rw [← e]
        exact ⟨by simp; omega, rfl⟩

end Go.Proofs.Ytennphechbngcaa
