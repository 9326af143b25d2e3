/-
  Masks: those that have the most, the program's and the document's. No conditions.
  Masks: those that have the most, the document's. No conditions.
-/
import Derived.Deep.QuietTactic
import Derived.BigQuiet
import Derived.Deep.LoopGhost
import Derived.Test.YtjnjlgknmocdlaaKWhJ
import Derived.Test.YtjnjlgknmocdlaaKRefE
namespace Go.Proofs.Ytjnjlgknmocdlaa
open Go.RowKit
set_option linter.unusedVariables false
set_option linter.unusedSimpArgs false

theorem ahead_self {ms : List Nat} {i k : Nat} (h : k = i) : ahead ms i k = false := by
  unfold ahead
  rw [decide_eq_false (fun h2 => h2 h)]
  rfl
theorem ahead_out {ms : List Nat} {i k : Nat} (h : inB (ms.getD i 0) (ms.getD k 0) = false) : ahead ms i k = false := by
  unfold ahead
  rw [h, Bool.and_false]
  rfl
theorem ahead_in {ms : List Nat} {i k : Nat} (h0 : k ≠ i) (h : inB (ms.getD i 0) (ms.getD k 0) = true) (h2 : ms.getD i 0 ≠ ms.getD k 0 ∨ k < i) : ahead ms i k = true := by
  unfold ahead
  rw [h, decide_eq_true h0, Bool.true_and, Bool.true_and, Bool.or_eq_true]
  rcases h2 with h2 | h2
  · exact .inl (decide_eq_true h2)
  · exact .inr (decide_eq_true h2)
theorem ahead_not {ms : List Nat} {i k : Nat} (h : ms.getD i 0 = ms.getD k 0) (h2 : ¬ k < i) : ahead ms i k = false := by
  unfold ahead
  rw [decide_eq_false (p := ms.getD i 0 ≠ ms.getD k 0) (fun h3 => h3 h), decide_eq_false h2]
  simp
theorem lone_no {ms : List Nat} {i j : Nat} (hj : j < ms.length) (h : ahead ms i j = true) : lone ms i = false := by
  unfold lone
  rw [← Bool.not_eq_true]
  intro h2
  have := List.all_eq_true.1 h2 j (List.mem_range.2 hj)
  rw [h] at this
  cases this
theorem lone_yes {ms : List Nat} {i : Nat} (h : ∀ j, j < ms.length → ahead ms i j = false) : lone ms i = true := by
  unfold lone
  rw [List.all_eq_true]
  intro j hj
  rw [h j (List.mem_range.1 hj)]
  rfl
theorem mostTo_yes {ms : List Nat} {n : Nat} (h : lone ms n = true) : mostTo ms (n + 1) = mostTo ms n ++ [n] := by rw [mostTo_succ, if_pos h]
theorem mostTo_no {ms : List Nat} {n : Nat} (h : lone ms n = false) : mostTo ms (n + 1) = mostTo ms n := by rw [mostTo_succ, h, if_neg (by simp), List.append_nil]

/-- A list of ints of one's own: the program's answer. -/
def mostI (ms : List Nat) : List Int := if ms.length ≤ 4096 then (mostL ms).map fun x : Nat => (x : Int) else []
theorem ints_of_nats {w : World} {base : Nat} {e : TypeId} {v : Value} {n : Nat} {l : List Nat} (h : w.ownsRow base e 1 v n (l.map fun x : Nat => Value.int .i64 (x : Int))) (h1 : ∀ x ∈ l, x ≤ 9223372036854775807) : IsInts w old v (l.map fun x : Nat => (x : Int)) := by
  refine ints_own (base := base) (e := e) (n := n) (by rw [List.map_map]; exact h) fun x hx => ?_
  obtain ⟨y, hy, rfl⟩ := List.mem_map.1 hx
  have := h1 y hy
  omega
theorem mostTo_small {ms : List Nat} (n : Nat) : ∀ x ∈ mostTo ms n, x < n := fun x hx => by
  unfold mostTo at hx
  exact List.mem_range.1 (List.mem_filter.1 hx).1
theorem infoInt : (Try.prog.info? 3).map (fun i => (i.zero, i.size, i.bytes)) = some (some (.int .i64 0), 1, 8) := by kernel_rfl

set_option maxRecDepth 100000 in
set_option maxHeartbeats 4000000 in
theorem satmost_any {w : World} {Z : Zone} {v : Value} {ms : List Nat} (h : IsU w Z v ms) :
    Calls Try.prog 21 #[v] w fun e w' => ∃ u, e = .returned (.tuple #[u, .int .i64 (errK ms)]) ∧ IsInts w' old u (mostI ms) ∧ Below w.heap.size w w' := by
  obtain ⟨A, c, rfl, hu⟩ := h
  have hlen := hu.len
  have hck := satchecked_any (w := w) (A := A) (c := c) hlen
  obtain ⟨i0, hi, hz0, hz1, hz2⟩ := info_parts infoInt
  by_cases h0 : ms.length ≤ 4096
  · have e1 : errK ms = 0 := by unfold errK; rw [if_pos h0]
    have e2 : mostI ms = (mostTo ms ms.length).map fun x : Nat => (x : Int) := by unfold mostI; rw [if_pos h0]; rfl
    rw [e1] at hck ⊢
    rw [e2]
    have Hck := Lib.hid hck
    clear e1 e2 hck
    go_enter Try.func21, Try.ntmps21
    go_wp2
    go_step3
    go_wp2_with fail
    refine Hck.out.mono ?_
    rintro e _ ⟨rfl, rfl⟩
    go_wp2
    go_step3
    go_wp2
    go_loopg [2, 14] ms.length (fun g s2 s14 wr => ∃ k : Nat, k + g = ms.length ∧ s14 = .int .i64 (k : Int) ∧ wr.ownsRow w.heap.size 3 1 s2 (mostTo ms k).length ((mostTo ms k).map fun x : Nat => Value.int .i64 (x : Int)) ∧ Below w.heap.size w wr)
    case atStart => exact ⟨0, by omega, rfl, World.ownsRow_nil _ _ _ _, Below.refl _ _⟩
    case round =>
      obtain ⟨i, hig, rfl, hown, hbel⟩ := hrel
      have hml := mostTo_len ms i
      cases gk with
      | zero =>
        obtain rfl : i = ms.length := by omega
        have hfin := ints_of_nats hown (fun x hx => by have := mostTo_small _ x hx; omega)
        have HF := Lib.hid hfin
        clear hfin hown
        go_wp2
        try rw [Exit.noGoto_ret]
        go_ret2
        exact ⟨_, rfl, HF.out, hbel⟩
      | succ g =>
        have hlt : i < ms.length := by omega
        obtain ⟨b, o, rfl, hb, x1, y1⟩ := hu.getD hlt
        replace x1 := keepC hbel x1
        have Hyes : Hid (lone ms i = true → mostTo ms (i + 1) = mostTo ms i ++ [i]) := mostTo_yes
        have Hno : Hid (lone ms i = false → mostTo ms (i + 1) = mostTo ms i) := mostTo_no
        obtain ⟨xi, exi⟩ : ∃ x, x = ms.getD i 0 := ⟨_, rfl⟩
        rw [← exi] at x1 y1
        have Exi := Lib.hid exi
        clear exi
        have hmk : (mostTo ms i).length ≤ 4096 := by omega
        go_wp2
        go_loopg [21] ms.length (fun g2 s21 wr2 => ∃ j : Nat, j + g2 = ms.length ∧ s21 = .int .i64 (j : Int) ∧ Hid (∀ q, q < j → ahead ms i q = false) ∧ wr = wr2)
        case atStart => exact ⟨0, by omega, rfl, Lib.hid (fun q hq => absurd hq (by omega)), rfl⟩
        case round =>
          obtain ⟨j, hjg, rfl, hall, rfl⟩ := hrel
          cases gk with
          | zero =>
            have hjz : ¬ (j < ms.length) := by omega
            have hl : lone ms i = true := lone_yes fun q hq => hall.out q (by omega)
            have hst := Hyes.out hl
            have Hst := Lib.hid hst
            clear hl hst
            generalize (mostTo ms i).length = n at *
            generalize mostTo ms i = l at *
            go_wp2_with (at_builtin; go_loud (refine wpList_app1 _ rfl _ _ 44 rfl w.heap.size 3 i0 (.int .i64 0) Try.underlying44 hi hz0 hz1 hz2 rfl _ _ _ rfl (hown.alloc _) wr.heap.size (.int .i64 (i : Int)) rfl (cell_newest rfl rfl) rfl (by omega) (by have := hbel.size; simp; omega) ?_); intro v' w1 hown' hgrow; go_loud (have hb1 : Below w.heap.size w w1 := (hbel.alloc hbel.size _).grown hgrow (by have := hbel.size; simp; omega) (own_nil_of hown)))
            go_roundg g
            case measure => omega
            case rel =>
              refine ⟨i + 1, by omega, by go_num, ?_, hb1⟩
              rw [Hst.out]
              have hn : n = l.length := by have := hown.1; simpa using this.symm
              subst hn
              simpa using hown'
          | succ g2 =>
            have hj : j < ms.length := by omega
            obtain ⟨_, _, e, _, x3, y3⟩ := hu.getD hj
            cases e
            replace x3 := keepC hbel x3
            obtain ⟨xj, exj⟩ : ∃ x, x = ms.getD j 0 := ⟨_, rfl⟩
            rw [← exj] at x3 y3
            have hin := satin_any (w := wr) y1 y3
            have Hnext : Hid (ahead ms i j = false → ∀ q, q < j + 1 → ahead ms i q = false) := fun hx q hq => by
              rcases Nat.lt_or_ge q j with h3 | h3
              · exact hall.out q h3
              · obtain rfl : q = j := by omega
                exact hx
            have Hlno : Hid (ahead ms i j = true → lone ms i = false) := fun hx => lone_no hj hx
            have Exj := Lib.hid exj
            clear exj
            by_cases ej : j = i
            · have t1 : ((j : Int) != (i : Int)) = false := by simp [ej]
              have HN := Lib.hid (ahead_self (ms := ms) ej)
              clear ej hin
              go_wp2
              go_roundg g2
              case measure => omega
              case rel => exact ⟨j + 1, by omega, by go_num, Lib.hid (Hnext.out HN.out), rfl⟩
            · have t1 : ((j : Int) != (i : Int)) = true := by simp; omega
              have hv : inB xi xj = true ∨ inB xi xj = false := by cases inB xi xj <;> simp
              rcases hv with hv | hv
              · have hv2 : inB (ms.getD i 0) (ms.getD j 0) = true := by rw [← Exi.out, ← Exj.out]; exact hv
                rw [hv] at hin
                have HC := Lib.hid hin
                by_cases em : xi = xj
                · have t2 : ((xi : Int) != (xj : Int)) = false := by simp [em]
                  by_cases eo : j < i
                  · have HN := Lib.hid (ahead_in ej hv2 (.inr eo))
                    have t3 : decide (j < i) = true := decide_eq_true eo
                    clear em hv hv2 hin eo ej
                    go_wp2_with fail
                    refine HC.out.mono ?_
                    rintro e _ ⟨rfl, rfl⟩
                    go_wp2
                    go_roundg g
                    case measure => omega
                    case rel =>
                      refine ⟨i + 1, by omega, by go_num, ?_, hbel⟩
                      rw [Hno.out (Hlno.out HN.out)]
                      exact hown
                  · have HN := Lib.hid (ahead_not (ms := ms) (i := i) (k := j) (by rw [← Exi.out, ← Exj.out]; exact em) eo)
                    have t3 : decide (j < i) = false := decide_eq_false eo
                    clear em hv hv2 hin eo ej
                    go_wp2_with fail
                    refine HC.out.mono ?_
                    rintro e _ ⟨rfl, rfl⟩
                    go_wp2
                    go_roundg g2
                    case measure => omega
                    case rel => exact ⟨j + 1, by omega, by go_num, Lib.hid (Hnext.out HN.out), rfl⟩
                · have t2 : ((xi : Int) != (xj : Int)) = true := by simp; omega
                  have HN := Lib.hid (ahead_in ej hv2 (.inl (by rw [← Exi.out, ← Exj.out]; exact em)))
                  clear em hv hv2 hin ej
                  go_wp2_with fail
                  refine HC.out.mono ?_
                  rintro e _ ⟨rfl, rfl⟩
                  go_wp2
                  go_roundg g
                  case measure => omega
                  case rel =>
                    refine ⟨i + 1, by omega, by go_num, ?_, hbel⟩
                    rw [Hno.out (Hlno.out HN.out)]
                    exact hown
              · have HN := Lib.hid (ahead_out (ms := ms) (i := i) (k := j) (by rw [← Exi.out, ← Exj.out]; exact hv))
                rw [hv] at hin
                have HC := Lib.hid hin
                clear hv hin ej
                go_wp2_with fail
                refine HC.out.mono ?_
                rintro e _ ⟨rfl, rfl⟩
                go_wp2
                go_roundg g2
                case measure => omega
                case rel => exact ⟨j + 1, by omega, by go_num, Lib.hid (Hnext.out HN.out), rfl⟩
  · have e1 : errK ms = 4 := by unfold errK; rw [if_neg h0]
    have e2 : mostI ms = [] := by unfold mostI; rw [if_neg h0]
    rw [e1] at hck ⊢
    rw [e2]
    have Hck := Lib.hid hck
    clear e1 e2 hck hu h0
    generalize ms.length = L at *
    go_enter Try.func21, Try.ntmps21
    go_wp2
    go_step3
    go_wp2_with fail
    refine Hck.out.mono ?_
    rintro e _ ⟨rfl, rfl⟩
    go_wp2
    try rw [Exit.noGoto_ret]
    go_ret2
    exact ⟨_, rfl, ⟨none, 0, rfl, by simp, by omega, fun x hx => by simp at hx, fun h => absurd h (by simp)⟩, Below.refl _ _⟩

end Go.Proofs.Ytjnjlgknmocdlaa

namespace Go.Proofs.Ytjnjlgknmocdlaa
open Go.RowKit
set_option linter.unusedVariables false
set_option linter.unusedSimpArgs false

def loneTo (ms : List Nat) (i j : Nat) : Bool := (List.range j).all fun k => !ahead ms i k
theorem loneTo_succ (ms : List Nat) (i j : Nat) : loneTo ms i (j + 1) = (loneTo ms i j && !ahead ms i j) := by
  unfold loneTo
  rw [List.range_succ, List.all_append]
  simp
theorem loneTo_keep {ms : List Nat} {i j : Nat} {b : Bool} (h : b = loneTo ms i j) (h2 : ahead ms i j = false) : b = loneTo ms i (j + 1) := by
  rw [loneTo_succ, h2, ← h]
  simp
theorem loneTo_lost {ms : List Nat} {i j : Nat} (h2 : ahead ms i j = true) : false = loneTo ms i (j + 1) := by
  rw [loneTo_succ, h2]
  simp
theorem drewN_add (w : World) (a b : Nat) : (w.drewN a).drewN b = w.drewN (a + b) := by
  simp [World.drewN, Nat.add_assoc]
theorem loneTo_all (ms : List Nat) (i : Nat) : loneTo ms i ms.length = lone ms i := rfl

set_option maxRecDepth 100000 in
set_option maxHeartbeats 4000000 in
theorem refmost_any {w : World} {Z : Zone} {v : Value} {ms : List Nat} (h : IsU w Z v ms) :
    Calls Try.prog 22 #[v] w fun e w' => ∃ u, e = .returned (.tuple #[u, .int .i64 (errK ms)]) ∧ IsInts w' old u (mostI ms) ∧ Below w.heap.size w w' := by
  obtain ⟨A, c, rfl, hu⟩ := h
  have hlen := hu.len
  obtain ⟨i0, hi, hz0, hz1, hz2⟩ := info_parts infoInt
  by_cases h0 : ms.length ≤ 4096
  · have e1 : errK ms = 0 := by unfold errK; rw [if_pos h0]
    have e2 : mostI ms = (mostTo ms ms.length).map fun x : Nat => (x : Int) := by unfold mostI; rw [if_pos h0]; rfl
    rw [e1, e2]
    have m0 : decide ((4096 : Int) < (ms.length : Int)) = false := decide_eq_false (by omega)
    clear e1 e2
    go_enter Try.func22, Try.ntmps22
    go_wp2
    go_loopw [4, 5] (fun s4 s5 wr => ∃ k : Nat, k ≤ ms.length ∧ s5 = .int .i64 (k : Int) ∧ wr.ownsRow w.heap.size 3 1 s4 (mostTo ms k).length ((mostTo ms k).map fun x : Nat => Value.int .i64 (x : Int)) ∧ Below w.heap.size w wr) (fun _ s5 _ => ms.length - (intOf s5).toNat)
    case atStart => exact ⟨0, Nat.zero_le _, rfl, World.ownsRow_nil _ _ _ _, Below.refl _ _⟩
    case round =>
      obtain ⟨i, hig, rfl, hown, hbel⟩ := hrel
      have hml := mostTo_len ms i
      by_cases hlt : i < ms.length
      · obtain ⟨b, o, rfl, hb, x1, y1⟩ := hu.getD hlt
        replace x1 := keepC hbel x1
        have Hyes : Hid (lone ms i = true → mostTo ms (i + 1) = mostTo ms i ++ [i]) := mostTo_yes
        have Hno : Hid (lone ms i = false → mostTo ms (i + 1) = mostTo ms i) := mostTo_no
        obtain ⟨xi, exi⟩ : ∃ x, x = ms.getD i 0 := ⟨_, rfl⟩
        rw [← exi] at x1 y1
        have Exi := Lib.hid exi
        clear exi
        have hmk : (mostTo ms i).length ≤ 4096 := by omega
        have hbel0 := hbel
        go_wp2
        obtain ⟨w0, rfl⟩ : ∃ w0, w0 = wr := ⟨_, rfl⟩
        go_loopw [6, 7] (fun lv jv wz => ∃ (j : Nat) (lb : Bool), j ≤ ms.length ∧ jv = .int .i64 (j : Int) ∧ lv = .bool lb ∧ Hid (lb = loneTo ms i j) ∧ ∃ q, wz = w0.drewN q) (fun _ jv _ => ms.length - (intOf jv).toNat)
        case atStart => exact ⟨0, true, Nat.zero_le _, rfl, rfl, Lib.hid rfl, 0, rfl⟩
        case round =>
          obtain ⟨j, lb, hjg, rfl, rfl, hall, q, hq⟩ := hrel
          have hbq : Below w0.heap.size w0 wr := by rw [hq]; exact below_drewN' (Below.refl _ w0) q
          have hbel : Below w.heap.size w wr := from_ hbel0 hbq
          have HQ := Lib.hid hq
          clear hq
          by_cases hj : j < ms.length
          · obtain ⟨_, _, e, _, x3, y3⟩ := hu.getD hj
            cases e
            replace x3 := keepC hbel x3
            replace x1 := keepC hbq x1
            obtain ⟨xj, exj⟩ : ∃ x, x = ms.getD j 0 := ⟨_, rfl⟩
            rw [← exj] at x3 y3
            have hin := fun (w1 : World) => refin_any (w := w1) y1 y3
            have Exj := Lib.hid exj
            clear exj hbel hown hbq hbel0
            by_cases em : xj = xi
            · have t1 : ((xj : Int) != (xi : Int)) = false := by simp [em]
              have t2 : ((xj : Int) == (xi : Int)) = true := by simp [em]
              have hm : ms.getD i 0 = ms.getD j 0 := by rw [← Exi.out, ← Exj.out]; exact em.symm
              by_cases eo : j < i
              · have HN := Lib.hid (ahead_in (ms := ms) (i := i) (k := j) (by omega) (by rw [← hm, ← Exi.out]; exact inB_self y1) (.inr eo))
                have t3 : decide (j < i) = true := decide_eq_true eo
                clear em eo hin hm
                go_wp2
                go_quiet (fail)
                go_wp2
                go_roundw
                case rel => exact ⟨j + 1, false, by omega, by go_num, by first | rfl | trivial, Lib.hid (loneTo_lost HN.out), _, by rw [HQ.out]; exact drewN_add _ _ _⟩
                case measure => simp [intOf]; omega
              · have HN := Lib.hid (ahead_not (ms := ms) (i := i) (k := j) hm eo)
                have t3 : decide (j < i) = false := decide_eq_false eo
                clear em eo hin hm
                go_wp2
                go_quiet (fail)
                go_wp2
                go_roundw
                case rel => exact ⟨j + 1, lb, by omega, by go_num, by first | rfl | trivial, Lib.hid (loneTo_keep hall.out HN.out), _, by rw [HQ.out]; exact drewN_add _ _ _⟩
                case measure => simp [intOf]; omega
            · have t1 : ((xj : Int) != (xi : Int)) = true := by simp; omega
              have t2 : ((xj : Int) == (xi : Int)) = false := beq_eq_false_iff_ne.2 (by omega)
              have hm : ms.getD i 0 ≠ ms.getD j 0 := by rw [← Exi.out, ← Exj.out]; exact fun e => em e.symm
              have hv : inB xi xj = true ∨ inB xi xj = false := by cases inB xi xj <;> simp
              rcases hv with hv | hv
              · have HN := Lib.hid (ahead_in (ms := ms) (i := i) (k := j) (fun e => hm (by rw [e])) (by rw [← Exi.out, ← Exj.out]; exact hv) (.inl hm))
                rw [hv] at hin
                have HC := Lib.hid hin
                clear em hv hin hm
                go_wp2
                go_quiet ((go_at_call 69; exact Calls.quiet_of_same ((HC.out _).mono fun e w' h => ⟨h.1, h.2.symm⟩)))
                go_wp2
                go_roundw
                case rel => exact ⟨j + 1, false, by omega, by go_num, by first | rfl | trivial, Lib.hid (loneTo_lost HN.out), _, by rw [HQ.out]; exact drewN_add _ _ _⟩
                case measure => simp [intOf]; omega
              · have HN := Lib.hid (ahead_out (ms := ms) (i := i) (k := j) (by rw [← Exi.out, ← Exj.out]; exact hv))
                rw [hv] at hin
                have HC := Lib.hid hin
                clear em hv hin hm
                go_wp2
                go_quiet ((go_at_call 69; exact Calls.quiet_of_same ((HC.out _).mono fun e w' h => ⟨h.1, h.2.symm⟩)))
                go_wp2
                go_roundw
                case rel => exact ⟨j + 1, lb, by omega, by go_num, by first | rfl | trivial, Lib.hid (loneTo_keep hall.out HN.out), _, by rw [HQ.out]; exact drewN_add _ _ _⟩
                case measure => simp [intOf]; omega
          · obtain rfl : j = ms.length := by omega
            have hl := hall.out
            rw [loneTo_all] at hl
            have hown2 := own_below hown hbq
            cases lb
            · have hst := Hno.out hl.symm
              have Hst := Lib.hid hst
              clear hl hst hown
              go_wp2
              go_roundw
              case rel =>
                refine ⟨i + 1, by omega, by go_num, ?_, hbel⟩
                rw [Hst.out]
                exact hown2
              case measure => simp [intOf]; omega
            · have hst := Hyes.out hl.symm
              have Hst := Lib.hid hst
              clear hl hst hown
              have hwq := hbel.size
              generalize (mostTo ms i).length = n at *
              generalize mostTo ms i = l at *
              go_wp2_with (at_builtin; go_loud (refine wpList_app1 _ rfl _ _ 44 rfl w.heap.size 3 i0 (.int .i64 0) Try.underlying44 hi hz0 hz1 hz2 rfl _ _ _ rfl (hown2.alloc _) wr.heap.size (.int .i64 (i : Int)) rfl (cell_newest rfl rfl) rfl (by omega) (by have := hbel.size; simp; omega) ?_); intro v' w1 hown' hgrow; go_loud (have hb1 : Below w.heap.size w w1 := (hbel.alloc hbel.size _).grown hgrow (by have := hbel.size; simp; omega) (own_nil_of hown2)))
              go_roundw
              case rel =>
                refine ⟨i + 1, by omega, by go_num, ?_, hb1⟩
                rw [Hst.out]
                have hn : n = l.length := by have := hown2.1; simpa using this.symm
                subst hn
                simpa using hown'
              case measure => simp [intOf]; omega
      · obtain rfl : i = ms.length := by omega
        have hfin := ints_of_nats hown (fun x hx => by have := mostTo_small _ x hx; omega)
        have HF := Lib.hid hfin
        clear hfin hown
        go_wp2
        go_ret2
        exact ⟨_, rfl, HF.out, hbel⟩
  · have e1 : errK ms = 4 := by unfold errK; rw [if_neg h0]
    have e2 : mostI ms = [] := by unfold mostI; rw [if_neg h0]
    rw [e1, e2]
    have m0 : decide ((4096 : Int) < (ms.length : Int)) = true := decide_eq_true (by omega)
    clear e1 e2 hu h0
    generalize ms.length = L at *
    go_enter Try.func22, Try.ntmps22
    go_wp2
    go_ret2
    exact ⟨_, rfl, ⟨none, 0, rfl, by simp, by omega, fun x hx => by simp at hx, fun h => absurd h (by simp)⟩, Below.refl _ _⟩

end Go.Proofs.Ytjnjlgknmocdlaa
