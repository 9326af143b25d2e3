/- The contracts of the small functions of package nat. No conditions. -/
import Derived.Test.YtdncgncijbnjpaaGreatProg
import Derived.Deep.QuietTactic
import Derived.BigQuiet
import Derived.Lib.Hide
import Derived.Test.YtdncgncijbnjpaaGreatRMem
set_option linter.unusedVariables false
set_option linter.unusedSimpArgs false
set_option maxRecDepth 100000
set_option maxHeartbeats 40000000
namespace Go.Proofs.YtdncgncijbnjpaaGreat
open Go.Lib (hid)
open Go.RowKit
variable {A : Option Addr} {Z : Zone} {c : Nat}
abbrev C6 (W : World) (g : Nat) (a b c d e f : Value) : Prop := W.cell? ⟨g, 0, none⟩ = some a ∧ W.cell? ⟨g, 1, none⟩ = some b ∧ W.cell? ⟨g, 2, none⟩ = some c ∧ W.cell? ⟨g, 3, none⟩ = some d ∧ W.cell? ⟨g, 4, none⟩ = some e ∧ W.cell? ⟨g, 5, none⟩ = some f
abbrev D6 (W : World) (g : Nat) (a b c d e f : Value) (p : Prop) : Prop := W.cell? ⟨g, 0, none⟩ = some a ∧ W.cell? ⟨g, 1, none⟩ = some b ∧ W.cell? ⟨g, 2, none⟩ = some c ∧ W.cell? ⟨g, 3, none⟩ = some d ∧ W.cell? ⟨g, 4, none⟩ = some e ∧ W.cell? ⟨g, 5, none⟩ = some f ∧ p
abbrev C3 (W : World) (g : Nat) (a b c : Value) : Prop := W.cell? ⟨g, 0, none⟩ = some a ∧ W.cell? ⟨g, 1, none⟩ = some b ∧ W.cell? ⟨g, 2, none⟩ = some c
abbrev D3 (W : World) (g : Nat) (a b c : Value) (p : Prop) : Prop := W.cell? ⟨g, 0, none⟩ = some a ∧ W.cell? ⟨g, 1, none⟩ = some b ∧ W.cell? ⟨g, 2, none⟩ = some c ∧ p
theorem bal_ {w : World} {o : Obj} : Below w.heap.size w (w.alloc o) := (Below.refl _ _).alloc (Nat.le_refl _) _
theorem bdr_ {n : Nat} {w : World} : Below n w w.drew := (Below.refl _ _).drew
theorem hid2 {a b : Prop} (x : a) (y : b) : Hid a ∧ Hid b := ⟨x, y⟩
theorem hid3 {a b c : Prop} (x : a) (y : b) (z : c) : Hid a ∧ Hid b ∧ Hid c := ⟨x, y, z⟩
theorem hid4 {a b c d : Prop} (x : a) (y : b) (z : c) (u : d) : Hid a ∧ Hid b ∧ Hid c ∧ Hid d := ⟨x, y, z, u⟩
theorem hid5 {a b c d e : Prop} (x : a) (y : b) (z : c) (u : d) (v : e) : Hid a ∧ Hid b ∧ Hid c ∧ Hid d ∧ Hid e := ⟨x, y, z, u, v⟩
theorem hid6 {a b c d e f : Prop} (x : a) (y : b) (z : c) (u : d) (v : e) (s : f) : Hid a ∧ Hid b ∧ Hid c ∧ Hid d ∧ Hid e ∧ Hid f := ⟨x, y, z, u, v, s⟩
theorem check_good {w : World} {l : List Nat} (h : U64s w Z A c l) (hg : good l = true) :
  Calls Tryz.prog 223 #[.slice A l.length c] w fun e w' => e = .returned (.int .i64 0) ∧ w = w' := by
 have C := h.len
 rcases Nat.eq_zero_or_pos l.length with h0 | h0
 · have D : decide ((0 : Int) < (l.length : Int)) = false := by simp [h0]
   go_enter Tryz.func223, Tryz.ntmps223
   go_wp2
   go_ret
   exact ⟨rfl, rfl⟩
 · obtain ⟨b, o, rfl, _, _, _, B⟩ := h.open h0
   have E := B (l.length - 1) (by omega)
   rw [good_last h0, bne_iff_ne] at hg
   have F : ((l[l.length - 1] : Int) == 0) = false := by simpa using hg
   go_enter Tryz.func223, Tryz.ntmps223
   go_wp2
   go_ret
   exact ⟨rfl, rfl⟩
theorem check_bad {w : World} {l : List Nat} (h : U64s w Z A c l) (hg : good l = false) :
  Calls Tryz.prog 223 #[.slice A l.length c] w fun e w' => e = .returned (.int .i64 8) ∧ w = w' := by
 have D := h.len
 have B : 0 < l.length := by
  rcases Nat.eq_zero_or_pos l.length with B | B
  · rw [List.length_eq_zero_iff] at B; subst B; cases hg
  · exact B
 obtain ⟨b, o, rfl, _, _, _, C⟩ := h.open B
 have E := C (l.length - 1) (by omega)
 rw [good_last B] at hg
 have F : ((l[l.length - 1] : Int) == 0) = true := by simpa using hg
 go_enter Tryz.func223, Tryz.ntmps223
 go_wp2
 go_ret
 exact ⟨rfl, rfl⟩
def Given (w : World) (g : Nat) (ls : List (List Nat)) : Prop :=
 ∀ j (h : j < ls.length), ∃ A c, w.cell? ⟨g, j, none⟩ = some (.slice A (ls[j]).length c) ∧ U64s w old A c ls[j]
theorem checked_good {w : World} {g : Nat} {ls : List (List Nat)} (h : Given w g ls) (hn : ls.length ≤ 1000) (hg : ∀ l ∈ ls, good l = true) :
  Calls Tryz.prog 251 #[.slice (some ⟨g, 0, none⟩) ls.length c] w fun e w' => e = .returned (.int .i64 0) ∧ w = w' := by
 go_enter Tryz.func251, Tryz.ntmps251
 go_wp2
 go_loop [8] (fun i => ∃ k : Nat, k ≤ ls.length ∧ i = .int .i64 k) (fun i => ls.length - (intOf i).toNat)
 case atStart => exact ⟨0, Nat.zero_le _, rfl⟩
 case round =>
  obtain ⟨k, D, rfl⟩ := hrel
  by_cases hlt : k < ls.length
  · obtain ⟨A, E, F, C⟩ := h k hlt
    have B := hg ls[k] (List.getElem_mem hlt)
    go_wp2_with (go_at_call 223; refine (check_good C B).mono ?_; rintro e w' ⟨rfl, rfl⟩)
    go_round
    case rel => exact ⟨k + 1, by omega, by go_num⟩
    case measure => simp [intOf]; omega
  · go_wp2
    go_ret
    exact ⟨rfl, rfl⟩
theorem clip_any {w : World} {n : Nat} (hn : n ≤ c) (hc : c ≤ 9223372036854775807) (hA : A = none → c = 0) :
  Calls Tryz.prog 215 #[.slice A n c] w fun e w' => e = .returned (.slice A n n) ∧ w = w' := by
 go_enter Tryz.func215, Tryz.ntmps215
 go_wp2
 go_ret
 exact ⟨rfl, rfl⟩
theorem trim_take (l : List Nat) (hs : Small l) (k : Nat) (hk : k ≤ l.length) (hz : ∀ j (hj : j < l.length), k ≤ j → l[j] = 0) (hg : k = 0 ∨ ∃ h : k - 1 < l.length, l[k - 1] ≠ 0) : l.take k = limbs (val l) := by
 have e : l = l.take k ++ List.replicate (l.length - k) 0 := by
  apply List.ext_getElem
  · simp; omega
  · intro j A h2
    by_cases hj : j < k
    · rw [List.getElem_append_left (by simp; omega)]; simp
    · rw [List.getElem_append_right (by simp; omega)]; simp [hz j A (by omega)]
 have B : val l = val (l.take k) := by
  have A : val l = val (l.take k ++ List.replicate (l.length - k) 0) := congrArg val e
  rw [A, val_append, val_replicate0]
  simp
 rw [B, limbs_val _ (hs.take k)]
 rcases hg with rfl | ⟨A, h2⟩
 · simp [good]
 · have C : (l.take k).length = k := by simp; omega
   by_cases hk0 : k = 0
   · subst hk0; simp [good]
   · rw [good_last (by omega)]
     simp [C, h2]
theorem trim_any {w : World} {l : List Nat} (h : U64s w Z A c l) :
  Calls Tryz.prog 163 #[.slice A l.length c] w fun e w' => e = .returned (.slice A (limbs (val l)).length (limbs (val l)).length) ∧ w = w' := by
 have I := h.len
 have J := h.cap
 have K := h.max
 have D := hid h.nul
 go_enter Tryz.func163, Tryz.ntmps163
 go_wp2
 go_loop [0] (fun v => ∃ k : Nat, k ≤ l.length ∧ v = .slice A k c ∧ Hid (∀ j (hj : j < l.length), k ≤ j → l[j] = 0)) (fun v => match v with | .slice _ k _ => k | _ => 0)
 case atStart => exact ⟨_, Nat.le_refl _, rfl, fun j hj F => absurd hj (by omega)⟩
 case round =>
  obtain ⟨k, F, rfl, C⟩ := hrel
  by_cases hk0 : k = 0
  · subst hk0
    have L : decide ((0 : Int) < ((0 : Nat) : Int)) = false := rfl
    go_wp2_with (go_at_call 215; refine (clip_any (by omega) (by omega) D.out).mono ?_; rintro e w' ⟨rfl, rfl⟩)
    go_ret
    have e := trim_take l h.small 0 (by omega) C.out (.inl rfl)
    rw [← e]
    exact ⟨by simp, rfl⟩
  · obtain ⟨b, o, rfl, _, _, _, H⟩ := h.open (by omega)
    have E : k - 1 < l.length := by omega
    have M := H (k - 1) E
    by_cases hl : l[k - 1] = 0
    · have G : ((l[k - 1] : Int) == 0) = true := by simpa using hl
      have B := hid hl
      clear hl
      go_wp2
      go_round
      case rel =>
       refine ⟨k - 1, by omega, ?_, fun j hj hjk => ?_⟩
       · rfl
       · rcases Nat.lt_or_ge j k with h1 | h1
         · obtain rfl : j = k - 1 := by omega
           exact B.out
         · exact C.out j hj h1
      case measure =>
       show k - 1 < k
       omega
    · have G : ((l[k - 1] : Int) == 0) = false := by simpa using hl
      have B := hid hl
      clear hl
      go_wp2_with (go_at_call 215; refine (clip_any (by omega) (by omega) D.out).mono ?_; rintro e w' ⟨rfl, rfl⟩)
      go_ret
      have e := trim_take l h.small k F C.out (.inr ⟨E, B.out⟩)
      rw [← e]
      exact ⟨by simp; omega, rfl⟩
end Go.Proofs.YtdncgncijbnjpaaGreat
