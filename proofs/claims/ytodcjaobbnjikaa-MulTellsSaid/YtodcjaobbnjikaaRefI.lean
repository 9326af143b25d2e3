/-
  What nat's and the document's Cmp, Add, Sub, Word, Check answer, at any words: the same.
-/
import Derived.Test.YtodcjaobbnjikaaRefH
import Derived.Test.YtodcjaobbnjikaaRefD
namespace Go.Proofs.Ytodcjaobbnjikaa
open Go.RowKit
set_option linter.unusedVariables false
set_option linter.unusedSimpArgs false

def err2 (la lb : List Nat) : Int := if good la = true ∧ good lb = true then 0 else 8
def cmpX (la lb : List Nat) : Int := if good la = true ∧ good lb = true then cmp3 (val la) (val lb) else 0
def addL (la lb : List Nat) : List Nat := if good la = true ∧ good lb = true then limbs (val la + val lb) else []
def errS (la lb : List Nat) : Int := if good la = true ∧ good lb = true then (if val la < val lb then 10 else 0) else 8
def subL (la lb : List Nat) : List Nat := if good la = true ∧ good lb = true then (if val la < val lb then [] else limbs (val la - val lb)) else []
def errW (l : List Nat) : Int := if good l = true then (if l.length ≤ 1 then 0 else 4) else 8
def wordX (l : List Nat) : Int := if good l = true then (if l.length ≤ 1 then ((l[0]?.getD 0 : Nat) : Int) else 0) else 0

theorem rword_all {w : World} {Z : Zone} {a : Value} {l : List Nat} (ha : IsU w Z a l) :
    Calls Try.prog 44 #[a] w fun e w' => e = .returned (.tuple #[.int .u64 (wordX l), .int .i64 (errW l)]) ∧ w = w' := by
  have hmay := may_any ha
  obtain ⟨A, c, rfl, ha⟩ := ha
  have hlen := ha.len
  cases hg : good l with
  | false =>
    rw [hg] at hmay
    have Hmay := Lib.hid hmay
    have e1 : errW l = 8 := by simp [errW, hg]
    have e2 : wordX l = 0 := by simp [wordX, hg]
    rw [e1, e2]
    clear hmay hg e1 e2 ha
    go_enter Try.func44, Try.ntmps44
    go_wp2_with fail
    refine Hmay.out.mono ?_
    rintro e w1 ⟨rfl, rfl⟩
    go_wp2
    go_ret2
    exact ⟨rfl, rfl⟩
  | true =>
    rw [hg] at hmay
    have Hmay := Lib.hid hmay
    by_cases h1 : 1 < l.length
    · have e1 : errW l = 4 := by simp [errW, hg]; omega
      have e2 : wordX l = 0 := by simp [wordX, hg]; omega
      rw [e1, e2]
      have hd : (1 : Int) < (l.length : Int) := by omega
      clear hmay hg e1 e2 ha h1
      go_enter Try.func44, Try.ntmps44
      go_wp2_with fail
      refine Hmay.out.mono ?_
      rintro e w1 ⟨rfl, rfl⟩
      go_wp2
      go_ret2
      exact ⟨rfl, rfl⟩
    · have e1 : errW l = 0 := by simp [errW, hg]; omega
      have e2 : wordX l = ((l[0]?.getD 0 : Nat) : Int) := by simp [wordX, hg]; omega
      rw [e1, e2]
      rcases Nat.eq_zero_or_pos l.length with h0 | h0
      · have h2 : l = [] := List.length_eq_zero_iff.1 h0
        subst h2
        clear h0 h1 ha hmay hg e1 e2 hlen
        go_enter Try.func44, Try.ntmps44
        go_wp2_with fail
        refine Hmay.out.mono ?_
        rintro e w1 ⟨rfl, rfl⟩
        go_wp2
        go_ret2
        exact ⟨rfl, rfl⟩
      · obtain ⟨b, o, rfl, _, _, _, hc⟩ := ha.open h0
        have hx := hc 0 h0
        have e0 : l[0]?.getD 0 = l[0] := by simp [h0]
        rw [e0]
        rw [Nat.add_zero] at hx
        have hd : decide ((1 : Int) < (l.length : Int)) = false := by simp; omega
        have hz : ((l.length : Int) == 0) = false := beq_eq_false_iff_ne.2 (by omega)
        clear e0 hc e1 e2 hmay hg ha
        generalize l[0] = x at *
        go_enter Try.func44, Try.ntmps44
        go_wp2_with fail
        refine Hmay.out.mono ?_
        rintro e w1 ⟨rfl, rfl⟩
        go_wp2
        go_ret2
        exact ⟨rfl, rfl⟩

theorem word_all {w : World} {Z : Zone} {a : Value} {l : List Nat} (ha : IsU w Z a l) :
    Calls Try.prog 43 #[a] w fun e w' => e = .returned (.tuple #[.int .u64 (wordX l), .int .i64 (errW l)]) ∧ w = w' := by
  cases hg : good l with
  | false =>
    refine (word_bad ha hg).mono ?_
    rintro e w' ⟨rfl, rfl⟩
    exact ⟨by simp [wordX, errW, hg], rfl⟩
  | true =>
    by_cases h1 : l.length ≤ 1
    · refine (word_few ha hg h1).mono ?_
      rintro e w' ⟨rfl, rfl⟩
      exact ⟨by simp [wordX, errW, hg, h1], rfl⟩
    · refine (word_many ha hg (by omega)).mono ?_
      rintro e w' ⟨rfl, rfl⟩
      exact ⟨by simp [wordX, errW, hg, h1], rfl⟩

theorem check_all {w : World} {Z : Zone} {a : Value} {l : List Nat} (ha : IsU w Z a l) :
    Calls Try.prog 28 #[a] w fun e w' => e = .returned (.int .i64 (errL l)) ∧ w = w' := by
  obtain ⟨A, c, rfl, ha⟩ := ha
  cases hg : good l with
  | false => simpa [errL, hg] using check_bad ha hg
  | true => simpa [errL, hg] using check_good ha hg

theorem rcheck_all {w : World} {Z : Zone} {a : Value} {l : List Nat} (ha : IsU w Z a l) :
    Calls Try.prog 45 #[a] w fun e w' => e = .returned (.int .i64 (errL l)) ∧ w = w' :=
  (rcheck_any ha).mono fun e w' h => ⟨by rw [h.1]; cases hg : good l <;> simp [errL, hg], h.2⟩

theorem cmp_all {w : World} {Z Y : Zone} {a b : Value} {la lb : List Nat} (ha : IsU w Z a la) (hb : IsU w Y b lb) :
    Calls Try.prog 39 #[a, b] w fun e w' => e = .returned (.tuple #[.int .i64 (cmpX la lb), .int .i64 (err2 la lb)]) ∧ Below w.heap.size w w' := by
  rcases ha.decN with ⟨hg, hn, _⟩ | hg
  · rcases hb.decN with ⟨hg2, hn2, _⟩ | hg2
    · simpa [cmpX, err2, hg, hg2] using cmp_good hn hn2 rfl
    · simpa [cmpX, err2, hg, hg2] using cmp_bad ha hb (.inr hg2)
  · simpa [cmpX, err2, hg] using cmp_bad ha hb (.inl hg)

theorem add_all {w : World} {Z Y : Zone} {a b : Value} {la lb : List Nat} (ha : IsU w Z a la) (hb : IsU w Y b lb) (hl : la.length ≤ 900000) (hl2 : lb.length ≤ 900000) :
    Calls Try.prog 27 #[a, b] w fun e w' => ∃ v, e = .returned (.tuple #[v, .int .i64 (err2 la lb)]) ∧ IsU w' (new w.heap.size) v (addL la lb) ∧ Below w.heap.size w w' := by
  have hno : (good la = false ∨ good lb = false) → Calls Try.prog 27 #[a, b] w fun e w' => ∃ v, e = .returned (.tuple #[v, .int .i64 (err2 la lb)]) ∧ IsU w' (new w.heap.size) v (addL la lb) ∧ Below w.heap.size w w' := fun h => by
    refine (add_bad ha hb h).mono ?_
    rintro e w' ⟨rfl, hbel⟩
    refine ⟨.slice none 0 0, ?_, ?_, hbel⟩
    · rcases h with h | h <;> simp [err2, h]
    · rcases h with h | h <;> simpa [addL, h] using IsU.nil _ _
  rcases ha.decN with ⟨hg, hn, _⟩ | hg
  · rcases hb.decN with ⟨hg2, hn2, _⟩ | hg2
    · refine (add_good hn hn2 (by omega) (by omega)).mono ?_
      rintro e w' ⟨v, rfl, hv, hbel⟩
      exact ⟨v, by simp [err2, hg, hg2], by unfold IsN at hv; simpa [addL, hg, hg2] using hv, hbel⟩
    · exact hno (.inr hg2)
  · exact hno (.inl hg)

theorem sub_all {w : World} {Z Y : Zone} {a b : Value} {la lb : List Nat} (ha : IsU w Z a la) (hb : IsU w Y b lb) (hl : la.length ≤ 900000) (hl2 : lb.length ≤ 900000) :
    Calls Try.prog 29 #[a, b] w fun e w' => ∃ v, e = .returned (.tuple #[v, .int .i64 (errS la lb)]) ∧ IsU w' (new w.heap.size) v (subL la lb) ∧ Below w.heap.size w w' := by
  have hno : (good la = false ∨ good lb = false) → Calls Try.prog 29 #[a, b] w fun e w' => ∃ v, e = .returned (.tuple #[v, .int .i64 (errS la lb)]) ∧ IsU w' (new w.heap.size) v (subL la lb) ∧ Below w.heap.size w w' := fun h => by
    refine (sub_bad ha hb h).mono ?_
    rintro e w' ⟨rfl, hbel⟩
    refine ⟨.slice none 0 0, ?_, ?_, hbel⟩
    · rcases h with h | h <;> simp [errS, h]
    · rcases h with h | h <;> simpa [subL, h] using IsU.nil _ _
  rcases ha.decN with ⟨hg, hn, _⟩ | hg
  · rcases hb.decN with ⟨hg2, hn2, _⟩ | hg2
    · by_cases hlt : val la < val lb
      · refine (sub_less hn hn2 (by omega) (by omega) hlt).mono ?_
        rintro e w' ⟨rfl, hbel⟩
        exact ⟨.slice none 0 0, by simp [errS, hg, hg2, hlt], by simpa [subL, hg, hg2, hlt] using IsU.nil _ _, hbel⟩
      · refine (sub_good hn hn2 (by omega) (by omega) (by omega)).mono ?_
        rintro e w' ⟨v, rfl, hv, hbel⟩
        exact ⟨v, by simp [errS, hg, hg2, hlt], by unfold IsN at hv; simpa [subL, hg, hg2, hlt] using hv, hbel⟩
    · exact hno (.inr hg2)
  · exact hno (.inl hg)

set_option maxHeartbeats 800000 in
theorem rcmp_all {w : World} {Z Y : Zone} {a b : Value} {la lb : List Nat} (ha : IsU w Z a la) (hb : IsU w Y b lb) (hl : la.length ≤ 10000) (hl2 : lb.length ≤ 10000) :
    Calls Try.prog 40 #[a, b] w fun e w' => e = .returned (.tuple #[.int .i64 (cmpX la lb), .int .i64 (err2 la lb)]) ∧ w = w' := by
  have hma := may_any ha
  have hmb := may_any hb
  cases hg : good la with
  | false =>
    rw [hg] at hma
    have Hma := Lib.hid hma
    have Hg := Lib.hid hg
    clear hma hmb hg ha hb
    go_enter Try.func40, Try.ntmps40
    go_wp2_with fail
    refine Hma.out.mono ?_
    rintro e w1 ⟨rfl, rfl⟩
    go_wp2
    go_ret2
    have hg := Hg.out
    exact ⟨by simp [cmpX, err2, hg], rfl⟩
  | true =>
    rw [hg] at hma
    have Hma := Lib.hid hma
    cases hg2 : good lb with
    | false =>
      rw [hg2] at hmb
      have Hmb := Lib.hid hmb
      have Hg := Lib.hid hg2
      clear hma hmb hg hg2 ha hb
      go_enter Try.func40, Try.ntmps40
      go_wp2_with fail
      refine Hma.out.mono ?_
      rintro e w1 ⟨rfl, rfl⟩
      go_wp2_with fail
      refine Hmb.out.mono ?_
      rintro e w1 ⟨rfl, rfl⟩
      go_wp2
      go_ret2
      have hg := Hg.out
      exact ⟨by simp [cmpX, err2, hg], rfl⟩
    | true =>
      rw [hg2] at hmb
      have Hmb := Lib.hid hmb
      have hn := ha.num hg
      have hn2 := hb.num hg2
      have q1 : (limbs (val la)).length ≤ 10000 := by rw [limbs_val la ha.small hg]; exact hl
      have q2 : (limbs (val lb)).length ≤ 10000 := by rw [limbs_val lb hb.small hg2]; exact hl2
      have Hg := Lib.hid (And.intro hg hg2)
      clear hma hmb hg hg2 ha hb
      go_enter Try.func40, Try.ntmps40
      go_wp2_with fail
      refine Hma.out.mono ?_
      rintro e w1 ⟨rfl, rfl⟩
      go_wp2_with fail
      refine Hmb.out.mono ?_
      rintro e w1 ⟨rfl, rfl⟩
      go_wp2_with fail
      refine (compared_good hn hn2 q1 q2).mono ?_
      rintro e w1 ⟨rfl, rfl⟩
      go_wp2
      go_ret2
      obtain ⟨hg, hg2⟩ := Hg.out
      exact ⟨by simp [cmpX, err2, hg, hg2], rfl⟩

set_option maxHeartbeats 800000 in
theorem radd_all {w : World} {Z Y : Zone} {a b : Value} {la lb : List Nat} (ha : IsU w Z a la) (hb : IsU w Y b lb) (hl : la.length ≤ 10000) (hl2 : lb.length ≤ 10000) :
    Calls Try.prog 41 #[a, b] w fun e w' => ∃ v, e = .returned (.tuple #[v, .int .i64 (err2 la lb)]) ∧ IsU w' (new w.heap.size) v (addL la lb) ∧ Below w.heap.size w w' := by
  have hma := may_any ha
  have hmb := may_any hb
  cases hg : good la with
  | false =>
    rw [hg] at hma
    have Hma := Lib.hid hma
    have Hg := Lib.hid hg
    clear hma hmb hg ha hb
    go_enter Try.func41, Try.ntmps41
    go_wp2_with fail
    refine Hma.out.mono ?_
    rintro e w1 ⟨rfl, rfl⟩
    go_wp2
    go_ret2
    have hg := Hg.out
    exact ⟨.slice none 0 0, by simp [err2, hg], by simpa [addL, hg] using IsU.nil _ _, Below.refl _ _⟩
  | true =>
    rw [hg] at hma
    have Hma := Lib.hid hma
    cases hg2 : good lb with
    | false =>
      rw [hg2] at hmb
      have Hmb := Lib.hid hmb
      have Hg := Lib.hid hg2
      clear hma hmb hg hg2 ha hb
      go_enter Try.func41, Try.ntmps41
      go_wp2_with fail
      refine Hma.out.mono ?_
      rintro e w1 ⟨rfl, rfl⟩
      go_wp2_with fail
      refine Hmb.out.mono ?_
      rintro e w1 ⟨rfl, rfl⟩
      go_wp2
      go_ret2
      have hg := Hg.out
      exact ⟨.slice none 0 0, by simp [err2, hg], by simpa [addL, hg] using IsU.nil _ _, Below.refl _ _⟩
    | true =>
      rw [hg2] at hmb
      have Hmb := Lib.hid hmb
      have hn := ha.num hg
      have hn2 := hb.num hg2
      have q1 : (limbs (val la)).length ≤ 10000 := by rw [limbs_val la ha.small hg]; exact hl
      have q2 : (limbs (val lb)).length ≤ 10000 := by rw [limbs_val lb hb.small hg2]; exact hl2
      have Hg := Lib.hid (And.intro hg hg2)
      clear hma hmb hg hg2 ha hb
      go_enter Try.func41, Try.ntmps41
      go_wp2_with fail
      refine Hma.out.mono ?_
      rintro e w1 ⟨rfl, rfl⟩
      go_wp2_with fail
      refine Hmb.out.mono ?_
      rintro e w1 ⟨rfl, rfl⟩
      go_wp2_with fail
      refine (sum1_good hn hn2 q1 q2).mono ?_
      rintro e w1 ⟨v, rfl, hv, hbel⟩
      go_wp2
      go_ret2
      obtain ⟨hg, hg2⟩ := Hg.out
      exact ⟨v, by simp [err2, hg, hg2], by unfold IsN at hv; simpa [addL, hg, hg2] using hv, hbel⟩

set_option maxHeartbeats 800000 in
theorem rsub_all {w : World} {Z Y : Zone} {a b : Value} {la lb : List Nat} (ha : IsU w Z a la) (hb : IsU w Y b lb) (hl : la.length ≤ 10000) (hl2 : lb.length ≤ 10000) :
    Calls Try.prog 42 #[a, b] w fun e w' => ∃ v, e = .returned (.tuple #[v, .int .i64 (errS la lb)]) ∧ IsU w' (new w.heap.size) v (subL la lb) ∧ Below w.heap.size w w' := by
  have hma := may_any ha
  have hmb := may_any hb
  cases hg : good la with
  | false =>
    rw [hg] at hma
    have Hma := Lib.hid hma
    have Hg := Lib.hid hg
    clear hma hmb hg ha hb
    go_enter Try.func42, Try.ntmps42
    go_wp2_with fail
    refine Hma.out.mono ?_
    rintro e w1 ⟨rfl, rfl⟩
    go_wp2
    go_ret2
    have hg := Hg.out
    exact ⟨.slice none 0 0, by simp [errS, hg], by simpa [subL, hg] using IsU.nil _ _, Below.refl _ _⟩
  | true =>
    rw [hg] at hma
    have Hma := Lib.hid hma
    cases hg2 : good lb with
    | false =>
      rw [hg2] at hmb
      have Hmb := Lib.hid hmb
      have Hg := Lib.hid hg2
      clear hma hmb hg hg2 ha hb
      go_enter Try.func42, Try.ntmps42
      go_wp2_with fail
      refine Hma.out.mono ?_
      rintro e w1 ⟨rfl, rfl⟩
      go_wp2_with fail
      refine Hmb.out.mono ?_
      rintro e w1 ⟨rfl, rfl⟩
      go_wp2
      go_ret2
      have hg := Hg.out
      exact ⟨.slice none 0 0, by simp [errS, hg], by simpa [subL, hg] using IsU.nil _ _, Below.refl _ _⟩
    | true =>
      rw [hg2] at hmb
      have Hmb := Lib.hid hmb
      have hn := ha.num hg
      have hn2 := hb.num hg2
      have q1 : (limbs (val la)).length ≤ 10000 := by rw [limbs_val la ha.small hg]; exact hl
      have q2 : (limbs (val lb)).length ≤ 10000 := by rw [limbs_val lb hb.small hg2]; exact hl2
      have Hg := Lib.hid (And.intro hg hg2)
      clear hma hmb hg hg2 ha hb
      have hcmp := compared_good hn hn2 q1 q2
      by_cases hlt : val la < val lb
      · rw [cmp3_lt (by omega)] at hcmp
        have Hcmp := Lib.hid hcmp
        have Hlt := Lib.hid hlt
        clear hcmp hlt
        go_enter Try.func42, Try.ntmps42
        go_wp2_with fail
        refine Hma.out.mono ?_
        rintro e w1 ⟨rfl, rfl⟩
        go_wp2_with fail
        refine Hmb.out.mono ?_
        rintro e w1 ⟨rfl, rfl⟩
        go_wp2_with fail
        refine Hcmp.out.mono ?_
        rintro e w1 ⟨rfl, rfl⟩
        go_wp2
        go_ret2
        obtain ⟨hg, hg2⟩ := Hg.out
        have hlt := Hlt.out
        exact ⟨.slice none 0 0, by simp [errS, hg, hg2, hlt], by simpa [subL, hg, hg2, hlt] using IsU.nil _ _, Below.refl _ _⟩
      · have hd : decide (cmp3 (val la : Int) (val lb : Int) < 0) = false := by
          unfold cmp3
          apply decide_eq_false
          split <;> (try split) <;> omega
        generalize cmp3 (val la : Int) (val lb : Int) = z at *
        have Hcmp := Lib.hid hcmp
        have Hlt := Lib.hid hlt
        clear hcmp hlt
        go_enter Try.func42, Try.ntmps42
        go_wp2_with fail
        refine Hma.out.mono ?_
        rintro e w1 ⟨rfl, rfl⟩
        go_wp2_with fail
        refine Hmb.out.mono ?_
        rintro e w1 ⟨rfl, rfl⟩
        go_wp2_with fail
        refine Hcmp.out.mono ?_
        rintro e w1 ⟨rfl, rfl⟩
        go_wp2_with fail
        refine (rest1_good (d := val la - val lb) hn hn2 q1 q2 (by have := Hlt.out; omega)).mono ?_
        rintro e w1 ⟨v, rfl, hv, hbel⟩
        go_wp2
        go_ret2
        obtain ⟨hg, hg2⟩ := Hg.out
        have hlt := Hlt.out
        exact ⟨v, by simp [errS, hg, hg2, hlt], by unfold IsN at hv; simpa [subL, hg, hg2, hlt] using hv, hbel⟩


end Go.Proofs.Ytodcjaobbnjikaa
