/-
  The contracts of mul.checked, Mul, School and Split.
-/
import Derived.Test.YtodcjaobbnjikaaMulC
namespace Go.Proofs.Ytodcjaobbnjikaa
open Go.RowKit
set_option linter.unusedVariables false
set_option linter.unusedSimpArgs false

set_option maxHeartbeats 800000 in
theorem checked_split (s : Nat) (hs : 1 ≤ s) (hs2 : s ≤ 1000) {w : World} {Z Y : Zone} {a b : Value} {m n : Nat} (ha : IsN w Z a m) (hb : IsN w Y b n) (hla : (limbs m).length ≤ 100000) (hlb : (limbs n).length ≤ 100000) :
    Calls Try.prog 81 #[a, b, .func (.func 82) #[.int .i64 (s : Int)] #[]] w fun e w' => ∃ v, e = .returned (.tuple #[v, .int .i64 0]) ∧ IsN w' (new w.heap.size) v (m * n) ∧ Below w.heap.size w w' := by
  have ka := ha
  have kb := hb
  obtain ⟨A, ca, rfl, ha⟩ := ha
  obtain ⟨B, cb, rfl, hb⟩ := hb
  obtain ⟨La, hLa⟩ : ∃ La, La = (limbs m).length := ⟨_, rfl⟩
  obtain ⟨Lb, hLb⟩ : ∃ Lb, Lb = (limbs n).length := ⟨_, rfl⟩
  rw [← hLa] at ka ⊢
  rw [← hLb] at kb ⊢
  have Hm := Lib.hid (make_any s hs hs2 _ m n rfl ka kb (by omega) (by omega))
  clear ha hb hLa hLb
  have i0 : ∀ w, (Instr.index 117 (.agg #[.slice A La ca, .slice B Lb cb]) (.int .i64 0)).run Try.prog w = .ok (.slice A La ca) w := fun _ => by kernel_rfl
  have i1 : ∀ w, (Instr.index 117 (.agg #[.slice A La ca, .slice B Lb cb]) (.int .i64 1)).run Try.prog w = .ok (.slice B Lb cb) w := fun _ => by kernel_rfl
  go_enter Try.func81, Try.ntmps81
  go_wp2
  go_loop [14] (fun i => i = .int .i64 0 ∨ i = .int .i64 1 ∨ i = .int .i64 2) (fun i => 2 - (intOf i).toNat)
  case atStart => exact .inl rfl
  case round =>
    rcases hrel with rfl | rfl | rfl
    · go_wp2_with fail
      refine (check_goodN ka).mono ?_
      rintro e w1 ⟨rfl, rfl⟩
      go_wp2
      go_round
      case rel => exact .inr (.inl rfl)
      case measure => simp [intOf]
    · go_wp2_with fail
      refine (check_goodN kb).mono ?_
      rintro e w1 ⟨rfl, rfl⟩
      go_wp2
      go_round
      case rel => exact .inr (.inr rfl)
      case measure => simp [intOf]
    · go_wp2_with fail
      refine Hm.out.mono ?_
      rintro e w1 ⟨v, rfl, hv, hb1⟩
      go_wp2
      go_ret2
      exact ⟨v, rfl, hv, hb1⟩

set_option maxHeartbeats 800000 in
theorem checked_school {w : World} {Z Y : Zone} {a b : Value} {m n : Nat} (ha : IsN w Z a m) (hb : IsN w Y b n) (hla : (limbs m).length ≤ 100000) (hlb : (limbs n).length ≤ 100000) :
    Calls Try.prog 81 #[a, b, .func (.func 83) #[] #[]] w fun e w' => ∃ v, e = .returned (.tuple #[v, .int .i64 0]) ∧ IsN w' (new w.heap.size) v (m * n) ∧ Below w.heap.size w w' := by
  have ka := ha
  have kb := hb
  obtain ⟨A, ca, rfl, ha⟩ := ha
  obtain ⟨B, cb, rfl, hb⟩ := hb
  obtain ⟨La, hLa⟩ : ∃ La, La = (limbs m).length := ⟨_, rfl⟩
  obtain ⟨Lb, hLb⟩ : ∃ Lb, Lb = (limbs n).length := ⟨_, rfl⟩
  rw [← hLa] at ka ⊢
  rw [← hLb] at kb ⊢
  have Hm := Lib.hid (school_any ka kb (by omega) (by omega))
  clear ha hb hLa hLb
  have i0 : ∀ w, (Instr.index 117 (.agg #[.slice A La ca, .slice B Lb cb]) (.int .i64 0)).run Try.prog w = .ok (.slice A La ca) w := fun _ => by kernel_rfl
  have i1 : ∀ w, (Instr.index 117 (.agg #[.slice A La ca, .slice B Lb cb]) (.int .i64 1)).run Try.prog w = .ok (.slice B Lb cb) w := fun _ => by kernel_rfl
  go_enter Try.func81, Try.ntmps81
  go_wp2
  go_loop [14] (fun i => i = .int .i64 0 ∨ i = .int .i64 1 ∨ i = .int .i64 2) (fun i => 2 - (intOf i).toNat)
  case atStart => exact .inl rfl
  case round =>
    rcases hrel with rfl | rfl | rfl
    · go_wp2_with fail
      refine (check_goodN ka).mono ?_
      rintro e w1 ⟨rfl, rfl⟩
      go_wp2
      go_round
      case rel => exact .inr (.inl rfl)
      case measure => simp [intOf]
    · go_wp2_with fail
      refine (check_goodN kb).mono ?_
      rintro e w1 ⟨rfl, rfl⟩
      go_wp2
      go_round
      case rel => exact .inr (.inr rfl)
      case measure => simp [intOf]
    · go_wp2_with fail
      refine Hm.out.mono ?_
      rintro e w1 ⟨v, rfl, hv, hb1⟩
      go_wp2
      go_ret2
      exact ⟨v, rfl, hv, hb1⟩

set_option maxHeartbeats 800000 in
theorem checked_bada {w : World} {Z Y : Zone} {a b f : Value} {l k : List Nat} (ha : IsU w Z a l) (hb : IsU w Y b k) (hga : good l = false) :
    Calls Try.prog 81 #[a, b, f] w fun e w' => e = .returned (.tuple #[.slice none 0 0, .int .i64 8]) ∧ w = w' := by
  have ka := ha
  have kb := hb
  obtain ⟨A, ca, rfl, ha⟩ := ha
  obtain ⟨B, cb, rfl, hb⟩ := hb
  obtain ⟨La, hLa⟩ : ∃ La, La = l.length := ⟨_, rfl⟩
  obtain ⟨Lb, hLb⟩ : ∃ Lb, Lb = k.length := ⟨_, rfl⟩
  rw [← hLa] at ka ⊢
  rw [← hLb] at kb ⊢
  clear ha hb hLa hLb
  have i0 : ∀ w, (Instr.index 117 (.agg #[.slice A La ca, .slice B Lb cb]) (.int .i64 0)).run Try.prog w = .ok (.slice A La ca) w := fun _ => by kernel_rfl
  have i1 : ∀ w, (Instr.index 117 (.agg #[.slice A La ca, .slice B Lb cb]) (.int .i64 1)).run Try.prog w = .ok (.slice B Lb cb) w := fun _ => by kernel_rfl
  go_enter Try.func81, Try.ntmps81
  go_wp2
  go_loop [14] (fun i => i = .int .i64 0) (fun i => 2 - (intOf i).toNat)
  case atStart => exact rfl
  case round =>
    rcases hrel with rfl
    · go_wp2_with fail
      refine (check_badU ka hga).mono ?_
      rintro e w1 ⟨rfl, rfl⟩
      go_wp2
      go_ret2
      exact ⟨rfl, rfl⟩

set_option maxHeartbeats 800000 in
theorem checked_badb {w : World} {Z Y : Zone} {a b f : Value} {m : Nat} {k : List Nat} (ha : IsN w Z a m) (hb : IsU w Y b k) (hgb : good k = false) :
    Calls Try.prog 81 #[a, b, f] w fun e w' => e = .returned (.tuple #[.slice none 0 0, .int .i64 8]) ∧ w = w' := by
  have ka := ha
  have kb := hb
  obtain ⟨A, ca, rfl, ha⟩ := ha
  obtain ⟨B, cb, rfl, hb⟩ := hb
  obtain ⟨La, hLa⟩ : ∃ La, La = (limbs m).length := ⟨_, rfl⟩
  obtain ⟨Lb, hLb⟩ : ∃ Lb, Lb = k.length := ⟨_, rfl⟩
  rw [← hLa] at ka ⊢
  rw [← hLb] at kb ⊢
  clear ha hb hLa hLb
  have i0 : ∀ w, (Instr.index 117 (.agg #[.slice A La ca, .slice B Lb cb]) (.int .i64 0)).run Try.prog w = .ok (.slice A La ca) w := fun _ => by kernel_rfl
  have i1 : ∀ w, (Instr.index 117 (.agg #[.slice A La ca, .slice B Lb cb]) (.int .i64 1)).run Try.prog w = .ok (.slice B Lb cb) w := fun _ => by kernel_rfl
  go_enter Try.func81, Try.ntmps81
  go_wp2
  go_loop [14] (fun i => i = .int .i64 0 ∨ i = .int .i64 1) (fun i => 2 - (intOf i).toNat)
  case atStart => exact .inl rfl
  case round =>
    rcases hrel with rfl | rfl
    · go_wp2_with fail
      refine (check_goodN ka).mono ?_
      rintro e w1 ⟨rfl, rfl⟩
      go_wp2
      go_round
      case rel => exact .inr rfl
      case measure => simp [intOf]
    · go_wp2_with fail
      refine (check_badU kb hgb).mono ?_
      rintro e w1 ⟨rfl, rfl⟩
      go_wp2
      go_ret2
      exact ⟨rfl, rfl⟩

theorem mchecked_bad {w : World} {Z Y : Zone} {a b f : Value} {l k : List Nat} (ha : IsU w Z a l) (hb : IsU w Y b k) (hg : good l = false ∨ good k = false) :
    Calls Try.prog 81 #[a, b, f] w fun e w' => e = .returned (.tuple #[.slice none 0 0, .int .i64 8]) ∧ w = w' := by
  rcases ha.decN with ⟨hl, hm, _⟩ | hl
  · rcases hg with h | h
    · rw [hl] at h
      cases h
    · exact checked_badb hm hb h
  · exact checked_bada ha hb hl

set_option maxHeartbeats 800000 in
theorem mul_good {w : World} {Z Y : Zone} {a b : Value} {m n : Nat} (ha : IsN w Z a m) (hb : IsN w Y b n) (hla : (limbs m).length ≤ 100000) (hlb : (limbs n).length ≤ 100000) :
    Calls Try.prog 48 #[a, b] w fun e w' => ∃ v, e = .returned (.tuple #[v, .int .i64 0]) ∧ IsN w' (new w.heap.size) v (m * n) ∧ Below w.heap.size w w' := by
  have H := Lib.hid (checked_split 8 (by omega) (by omega) ha hb hla hlb)
  clear ha hb
  go_enter Try.func48, Try.ntmps48
  go_wp2_with fail
  refine H.out.mono ?_
  rintro e w1 ⟨v, rfl, hv, hb1⟩
  go_wp2
  go_ret2
  exact ⟨v, rfl, hv, hb1⟩

set_option maxHeartbeats 800000 in
/-- If one of the two may not be. -/
theorem mul_bad {w : World} {Z Y : Zone} {a b : Value} {l k : List Nat} (ha : IsU w Z a l) (hb : IsU w Y b k) (hg : good l = false ∨ good k = false) :
    Calls Try.prog 48 #[a, b] w fun e w' => e = .returned (.tuple #[.slice none 0 0, .int .i64 8]) ∧ w = w' := by
  have H := Lib.hid (fun f => mchecked_bad (f := f) ha hb hg)
  clear ha hb hg
  go_enter Try.func48, Try.ntmps48
  go_wp2_with fail
  refine (H.out _).mono ?_
  rintro e w1 ⟨rfl, rfl⟩
  go_wp2
  go_ret2
  exact ⟨rfl, rfl⟩

set_option maxHeartbeats 800000 in
theorem school_good {w : World} {Z Y : Zone} {a b : Value} {m n : Nat} (ha : IsN w Z a m) (hb : IsN w Y b n) (hla : (limbs m).length ≤ 100000) (hlb : (limbs n).length ≤ 100000) :
    Calls Try.prog 49 #[a, b] w fun e w' => ∃ v, e = .returned (.tuple #[v, .int .i64 0]) ∧ IsN w' (new w.heap.size) v (m * n) ∧ Below w.heap.size w w' := by
  have H := Lib.hid (checked_school ha hb hla hlb)
  clear ha hb
  go_enter Try.func49, Try.ntmps49
  go_wp2_with fail
  refine H.out.mono ?_
  rintro e w1 ⟨v, rfl, hv, hb1⟩
  go_wp2
  go_ret2
  exact ⟨v, rfl, hv, hb1⟩

set_option maxHeartbeats 800000 in
/-- If one of the two may not be. -/
theorem school_bad {w : World} {Z Y : Zone} {a b : Value} {l k : List Nat} (ha : IsU w Z a l) (hb : IsU w Y b k) (hg : good l = false ∨ good k = false) :
    Calls Try.prog 49 #[a, b] w fun e w' => e = .returned (.tuple #[.slice none 0 0, .int .i64 8]) ∧ w = w' := by
  have H := Lib.hid (fun f => mchecked_bad (f := f) ha hb hg)
  clear ha hb hg
  go_enter Try.func49, Try.ntmps49
  go_wp2_with fail
  refine (H.out _).mono ?_
  rintro e w1 ⟨rfl, rfl⟩
  go_wp2
  go_ret2
  exact ⟨rfl, rfl⟩

set_option maxHeartbeats 800000 in
theorem split_good {w : World} {Z Y : Zone} {a b : Value} {m n : Nat} (ha : IsN w Z a m) (hb : IsN w Y b n) (hla : (limbs m).length ≤ 100000) (hlb : (limbs n).length ≤ 100000) :
    Calls Try.prog 50 #[a, b] w fun e w' => ∃ v, e = .returned (.tuple #[v, .int .i64 0]) ∧ IsN w' (new w.heap.size) v (m * n) ∧ Below w.heap.size w w' := by
  have H := Lib.hid (checked_split 1 (by omega) (by omega) ha hb hla hlb)
  clear ha hb
  go_enter Try.func50, Try.ntmps50
  go_wp2_with fail
  refine H.out.mono ?_
  rintro e w1 ⟨v, rfl, hv, hb1⟩
  go_wp2
  go_ret2
  exact ⟨v, rfl, hv, hb1⟩

set_option maxHeartbeats 800000 in
/-- If one of the two may not be. -/
theorem split_bad {w : World} {Z Y : Zone} {a b : Value} {l k : List Nat} (ha : IsU w Z a l) (hb : IsU w Y b k) (hg : good l = false ∨ good k = false) :
    Calls Try.prog 50 #[a, b] w fun e w' => e = .returned (.tuple #[.slice none 0 0, .int .i64 8]) ∧ w = w' := by
  have H := Lib.hid (fun f => mchecked_bad (f := f) ha hb hg)
  clear ha hb hg
  go_enter Try.func50, Try.ntmps50
  go_wp2_with fail
  refine (H.out _).mono ?_
  rintro e w1 ⟨rfl, rfl⟩
  go_wp2
  go_ret2
  exact ⟨rfl, rfl⟩

end Go.Proofs.Ytodcjaobbnjikaa
