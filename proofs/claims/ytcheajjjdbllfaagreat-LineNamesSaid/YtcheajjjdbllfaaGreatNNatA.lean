/- The contracts of the small functions of package nat. No conditions. -/
import Derived.Test.YtcheajjjdbllfaaGreatProg
import Derived.Deep.QuietTactic
import Derived.BigQuiet
import Derived.Lib.Hide
import Derived.Test.YtcheajjjdbllfaaGreatNMem
set_option linter.unusedVariables false
set_option linter.unusedSimpArgs false
set_option maxRecDepth 100000
set_option maxHeartbeats 40000000
namespace Go.Proofs.YtcheajjjdbllfaaGreat
open Go.Lib (hid)
open Go.RowKit
variable {A : Option Addr} {Z : Zone} {c : Nat} {w : World}
abbrev C6 (W : World) (g : Nat) (a b c d e f : Value) : Prop := W.cell? ⟨g, 0, none⟩ = some a ∧ W.cell? ⟨g, 1, none⟩ = some b ∧ W.cell? ⟨g, 2, none⟩ = some c ∧ W.cell? ⟨g, 3, none⟩ = some d ∧ W.cell? ⟨g, 4, none⟩ = some e ∧ W.cell? ⟨g, 5, none⟩ = some f
abbrev D6 (W : World) (g : Nat) (a b c d e f : Value) (p : Prop) : Prop := W.cell? ⟨g, 0, none⟩ = some a ∧ W.cell? ⟨g, 1, none⟩ = some b ∧ W.cell? ⟨g, 2, none⟩ = some c ∧ W.cell? ⟨g, 3, none⟩ = some d ∧ W.cell? ⟨g, 4, none⟩ = some e ∧ W.cell? ⟨g, 5, none⟩ = some f ∧ p
abbrev C3 (W : World) (g : Nat) (a b c : Value) : Prop := W.cell? ⟨g, 0, none⟩ = some a ∧ W.cell? ⟨g, 1, none⟩ = some b ∧ W.cell? ⟨g, 2, none⟩ = some c
abbrev D3 (W : World) (g : Nat) (a b c : Value) (p : Prop) : Prop := W.cell? ⟨g, 0, none⟩ = some a ∧ W.cell? ⟨g, 1, none⟩ = some b ∧ W.cell? ⟨g, 2, none⟩ = some c ∧ p
theorem bal_ {o : Obj} : Below w.heap.size w (w.alloc o) := (Below.refl _ _).alloc (Nat.le_refl _) _
theorem bdr_ {n : Nat} : Below n w w.drew := (Below.refl _ _).drew
theorem hid2 {a b : Prop} (x : a) (y : b) : Hid a ∧ Hid b := ⟨x, y⟩
theorem hid3 {a b c : Prop} (x : a) (y : b) (z : c) : Hid a ∧ Hid b ∧ Hid c := ⟨x, y, z⟩
theorem hid4 {a b c d : Prop} (x : a) (y : b) (z : c) (u : d) : Hid a ∧ Hid b ∧ Hid c ∧ Hid d := ⟨x, y, z, u⟩
theorem hid5 {a b c d e : Prop} (x : a) (y : b) (z : c) (u : d) (v : e) : Hid a ∧ Hid b ∧ Hid c ∧ Hid d ∧ Hid e := ⟨x, y, z, u, v⟩
theorem hid6 {a b c d e f : Prop} (x : a) (y : b) (z : c) (u : d) (v : e) (s : f) : Hid a ∧ Hid b ∧ Hid c ∧ Hid d ∧ Hid e ∧ Hid f := ⟨x, y, z, u, v, s⟩
theorem check_good {l : List Nat} (h : U64s w Z A c l) (hg : good l = true) :
  Calls Tryz.prog 130 #[.slice A l.length c] w fun e w' => e = .returned (.int .i64 0) ∧ w = w' := by
 have hb := h.len
 rcases Nat.eq_zero_or_pos l.length with h0 | h0
 · have hd : decide ((0 : Int) < (l.length : Int)) = false := by simp [h0]
   go_enter Tryz.func130, Tryz.ntmps130
   go_wp2
   go_ret
   exact ⟨rfl, rfl⟩
 · obtain ⟨b, o, rfl, _, _, _, hc⟩ := h.open h0
   have hx := hc (l.length - 1) (by omega)
   rw [good_last h0, bne_iff_ne] at hg
   have hne : ((l[l.length - 1] : Int) == 0) = false := by simpa using hg
   go_enter Tryz.func130, Tryz.ntmps130
   go_wp2
   go_ret
   exact ⟨rfl, rfl⟩
theorem check_bad {l : List Nat} (h : U64s w Z A c l) (hg : good l = false) :
  Calls Tryz.prog 130 #[.slice A l.length c] w fun e w' => e = .returned (.int .i64 8) ∧ w = w' := by
 have hb := h.len
 have h0 : 0 < l.length := by
  rcases Nat.eq_zero_or_pos l.length with h0 | h0
  · rw [List.length_eq_zero_iff] at h0; subst h0; cases hg
  · exact h0
 obtain ⟨b, o, rfl, _, _, _, hc⟩ := h.open h0
 have hx := hc (l.length - 1) (by omega)
 rw [good_last h0] at hg
 have hne : ((l[l.length - 1] : Int) == 0) = true := by simpa using hg
 go_enter Tryz.func130, Tryz.ntmps130
 go_wp2
 go_ret
 exact ⟨rfl, rfl⟩
def Given (w : World) (g : Nat) (ls : List (List Nat)) : Prop :=
 ∀ j (h : j < ls.length), ∃ A c, w.cell? ⟨g, j, none⟩ = some (.slice A (ls[j]).length c) ∧ U64s w old A c ls[j]
theorem checked_good {g : Nat} {ls : List (List Nat)} (h : Given w g ls) (hn : ls.length ≤ 1000) (hg : ∀ l ∈ ls, good l = true) :
  Calls Tryz.prog 138 #[.slice (some ⟨g, 0, none⟩) ls.length c] w fun e w' => e = .returned (.int .i64 0) ∧ w = w' := by
 go_enter Tryz.func138, Tryz.ntmps138
 go_wp2
 go_loop [8] (fun i => ∃ k : Nat, k ≤ ls.length ∧ i = .int .i64 k) (fun i => ls.length - (intOf i).toNat)
 case atStart => exact ⟨0, Nat.zero_le _, rfl⟩
 case round =>
  obtain ⟨k, hk, rfl⟩ := hrel
  by_cases hlt : k < ls.length
  · obtain ⟨A, c', hc, hu⟩ := h k hlt
    have hgk := hg ls[k] (List.getElem_mem hlt)
    go_wp2_with (go_at_call 130; refine (check_good hu hgk).mono ?_; rintro e w' ⟨rfl, rfl⟩)
    go_round
    case rel => exact ⟨k + 1, by omega, by go_num⟩
    case measure => simp [intOf]; omega
  · go_wp2
    go_ret
    exact ⟨rfl, rfl⟩
theorem clip_any {n : Nat} (hn : n ≤ c) (hc : c ≤ 9223372036854775807) (hA : A = none → c = 0) :
  Calls Tryz.prog 83 #[.slice A n c] w fun e w' => e = .returned (.slice A n n) ∧ w = w' := by
 go_enter Tryz.func83, Tryz.ntmps83
 go_wp2
 go_ret
 exact ⟨rfl, rfl⟩
theorem trim_take (l : List Nat) (hs : Small l) (k : Nat) (hk : k ≤ l.length) (hz : ∀ j (hj : j < l.length), k ≤ j → l[j] = 0) (hg : k = 0 ∨ ∃ h : k - 1 < l.length, l[k - 1] ≠ 0) : l.take k = limbs (val l) := by
 have e : l = l.take k ++ List.replicate (l.length - k) 0 := by
  apply List.ext_getElem
  · simp; omega
  · intro j h1 h2
    by_cases hj : j < k
    · rw [List.getElem_append_left (by simp; omega)]; simp
    · rw [List.getElem_append_right (by simp; omega)]; simp [hz j h1 (by omega)]
 have hv : val l = val (l.take k) := by
  have h1 : val l = val (l.take k ++ List.replicate (l.length - k) 0) := congrArg val e
  rw [h1, val_append, val_replicate0]
  simp
 rw [hv, limbs_val _ (hs.take k)]
 rcases hg with rfl | ⟨h1, h2⟩
 · simp [good]
 · have hl : (l.take k).length = k := by simp; omega
   by_cases hk0 : k = 0
   · subst hk0; simp [good]
   · rw [good_last (by omega)]
     simp [hl, h2]
theorem trim_any {l : List Nat} (h : U64s w Z A c l) :
  Calls Tryz.prog 47 #[.slice A l.length c] w fun e w' => e = .returned (.slice A (limbs (val l)).length (limbs (val l)).length) ∧ w = w' := by
 have hlen := h.len
 have hcap := h.cap
 have hmax := h.max
 have hnul := hid h.nul
 go_enter Tryz.func47, Tryz.ntmps47
 go_wp2
 go_loop [0] (fun v => ∃ k : Nat, k ≤ l.length ∧ v = .slice A k c ∧ Hid (∀ j (hj : j < l.length), k ≤ j → l[j] = 0)) (fun v => match v with | .slice _ k _ => k | _ => 0)
 case atStart => exact ⟨_, Nat.le_refl _, rfl, fun j hj hk => absurd hj (by omega)⟩
 case round =>
  obtain ⟨k, hk, rfl, hz⟩ := hrel
  by_cases hk0 : k = 0
  · subst hk0
    have hd : decide ((0 : Int) < ((0 : Nat) : Int)) = false := rfl
    go_wp2_with (go_at_call 83; refine (clip_any (by omega) (by omega) hnul.out).mono ?_; rintro e w' ⟨rfl, rfl⟩)
    go_ret
    have e := trim_take l h.small 0 (by omega) hz.out (.inl rfl)
    rw [← e]
    exact ⟨by simp, rfl⟩
  · obtain ⟨b, o, rfl, _, _, _, hc⟩ := h.open (by omega)
    have hk1 : k - 1 < l.length := by omega
    have hx := hc (k - 1) hk1
    by_cases hl : l[k - 1] = 0
    · have hne : ((l[k - 1] : Int) == 0) = true := by simpa using hl
      have Hl := hid hl
      clear hl
      go_wp2
      go_round
      case rel =>
       refine ⟨k - 1, by omega, ?_, fun j hj hjk => ?_⟩
       · rfl
       · rcases Nat.lt_or_ge j k with h1 | h1
         · obtain rfl : j = k - 1 := by omega
           exact Hl.out
         · exact hz.out j hj h1
      case measure =>
       show k - 1 < k
       omega
    · have hne : ((l[k - 1] : Int) == 0) = false := by simpa using hl
      have Hl := hid hl
      clear hl
      go_wp2_with (go_at_call 83; refine (clip_any (by omega) (by omega) hnul.out).mono ?_; rintro e w' ⟨rfl, rfl⟩)
      go_ret
      have e := trim_take l h.small k hk hz.out (.inr ⟨hk1, Hl.out⟩)
      rw [← e]
      exact ⟨by simp; omega, rfl⟩
end Go.Proofs.YtcheajjjdbllfaaGreat
