/-
  Masks: those that have the most, the program's and the document's. No conditions.
  Masks that have the most: the plain law. No conditions but that masks are words.
-/
import Derived.Deep.QuietTactic
import Derived.BigQuiet
import Derived.Deep.LoopGhost
import Derived.Test.YtjnjlgknmocdlaaPWhJ
import Derived.Test.YtjnjlgknmocdlaaPRefE
namespace Go.Proofs.Ytjnjlgknmocdlaa
open Go.RowKit
set_option linter.unusedVariables false
set_option linter.unusedSimpArgs false

theorem ahead_self {ms : List Nat} {i k : Nat} (h : k = i) : ahead ms i k = false := by
  unfold ahead
  rw [decide_eq_false (fun h2 => h2 h)]
  rfl
theorem ahead_out {ms : List Nat} {i k : Nat} (h : inB (ms.getD i 0) (ms.getD k 0) = false) : ahead ms i k = false := by
  unfold ahead
  rw [h, Bool.and_false]
  rfl
theorem ahead_in {ms : List Nat} {i k : Nat} (h0 : k ≠ i) (h : inB (ms.getD i 0) (ms.getD k 0) = true) (h2 : ms.getD i 0 ≠ ms.getD k 0 ∨ k < i) : ahead ms i k = true := by
  unfold ahead
  rw [h, decide_eq_true h0, Bool.true_and, Bool.true_and, Bool.or_eq_true]
  rcases h2 with h2 | h2
  · exact .inl (decide_eq_true h2)
  · exact .inr (decide_eq_true h2)
theorem ahead_not {ms : List Nat} {i k : Nat} (h : ms.getD i 0 = ms.getD k 0) (h2 : ¬ k < i) : ahead ms i k = false := by
  unfold ahead
  rw [decide_eq_false (p := ms.getD i 0 ≠ ms.getD k 0) (fun h3 => h3 h), decide_eq_false h2]
  simp
theorem lone_no {ms : List Nat} {i j : Nat} (hj : j < ms.length) (h : ahead ms i j = true) : lone ms i = false := by
  unfold lone
  rw [← Bool.not_eq_true]
  intro h2
  have := List.all_eq_true.1 h2 j (List.mem_range.2 hj)
  rw [h] at this
  cases this
theorem lone_yes {ms : List Nat} {i : Nat} (h : ∀ j, j < ms.length → ahead ms i j = false) : lone ms i = true := by
  unfold lone
  rw [List.all_eq_true]
  intro j hj
  rw [h j (List.mem_range.1 hj)]
  rfl
theorem mostTo_yes {ms : List Nat} {n : Nat} (h : lone ms n = true) : mostTo ms (n + 1) = mostTo ms n ++ [n] := by rw [mostTo_succ, if_pos h]
theorem mostTo_no {ms : List Nat} {n : Nat} (h : lone ms n = false) : mostTo ms (n + 1) = mostTo ms n := by rw [mostTo_succ, h, if_neg (by simp), List.append_nil]

/-- A list of ints of one's own: the program's answer. -/
def mostI (ms : List Nat) : List Int := if ms.length ≤ 4096 then (mostL ms).map fun x : Nat => (x : Int) else []
theorem ints_of_nats {w : World} {base : Nat} {e : TypeId} {v : Value} {n : Nat} {l : List Nat} (h : w.ownsRow base e 1 v n (l.map fun x : Nat => Value.int .i64 (x : Int))) (h1 : ∀ x ∈ l, x ≤ 9223372036854775807) : IsInts w old v (l.map fun x : Nat => (x : Int)) := by
  refine ints_own (base := base) (e := e) (n := n) (by rw [List.map_map]; exact h) fun x hx => ?_
  obtain ⟨y, hy, rfl⟩ := List.mem_map.1 hx
  have := h1 y hy
  omega
theorem mostTo_small {ms : List Nat} (n : Nat) : ∀ x ∈ mostTo ms n, x < n := fun x hx => by
  unfold mostTo at hx
  exact List.mem_range.1 (List.mem_filter.1 hx).1
theorem infoInt : (Try.prog.info? 3).map (fun i => (i.zero, i.size, i.bytes)) = some (some (.int .i64 0), 1, 8) := by kernel_rfl

set_option maxRecDepth 100000 in
set_option maxHeartbeats 4000000 in
theorem satmost_any {w : World} {Z : Zone} {v : Value} {ms : List Nat} (h : IsU w Z v ms) :
    Calls Try.prog 21 #[v] w fun e w' => ∃ u, e = .returned (.tuple #[u, .int .i64 (errK ms)]) ∧ IsInts w' old u (mostI ms) ∧ Below w.heap.size w w' := by
  obtain ⟨A, c, rfl, hu⟩ := h
  have hlen := hu.len
  have hck := satchecked_any (w := w) (A := A) (c := c) hlen
  obtain ⟨i0, hi, hz0, hz1, hz2⟩ := info_parts infoInt
  by_cases h0 : ms.length ≤ 4096
  · have e1 : errK ms = 0 := by unfold errK; rw [if_pos h0]
    have e2 : mostI ms = (mostTo ms ms.length).map fun x : Nat => (x : Int) := by unfold mostI; rw [if_pos h0]; rfl
    rw [e1] at hck ⊢
    rw [e2]
    have Hck := Lib.hid hck
    clear e1 e2 hck
    go_enter Try.func21, Try.ntmps21
    go_wp2
    go_step3
    go_wp2_with fail
    refine Hck.out.mono ?_
    rintro e _ ⟨rfl, rfl⟩
    go_wp2
    go_step3
    go_wp2
    go_loopg [2, 14] ms.length (fun g s2 s14 wr => ∃ k : Nat, k + g = ms.length ∧ s14 = .int .i64 (k : Int) ∧ wr.ownsRow w.heap.size 3 1 s2 (mostTo ms k).length ((mostTo ms k).map fun x : Nat => Value.int .i64 (x : Int)) ∧ Below w.heap.size w wr)
    case atStart => exact ⟨0, by omega, rfl, World.ownsRow_nil _ _ _ _, Below.refl _ _⟩
    case round =>
      obtain ⟨i, hig, rfl, hown, hbel⟩ := hrel
      have hml := mostTo_len ms i
      cases gk with
      | zero =>
        obtain rfl : i = ms.length := by omega
        have hfin := ints_of_nats hown (fun x hx => by have := mostTo_small _ x hx; omega)
        have HF := Lib.hid hfin
        clear hfin hown
        go_wp2
        try rw [Exit.noGoto_ret]
        go_ret2
        exact ⟨_, rfl, HF.out, hbel⟩
      | succ g =>
        have hlt : i < ms.length := by omega
        obtain ⟨b, o, rfl, hb, x1, y1⟩ := hu.getD hlt
        replace x1 := keepC hbel x1
        have Hyes : Hid (lone ms i = true → mostTo ms (i + 1) = mostTo ms i ++ [i]) := mostTo_yes
        have Hno : Hid (lone ms i = false → mostTo ms (i + 1) = mostTo ms i) := mostTo_no
        obtain ⟨xi, exi⟩ : ∃ x, x = ms.getD i 0 := ⟨_, rfl⟩
        rw [← exi] at x1 y1
        have Exi := Lib.hid exi
        clear exi
        have hmk : (mostTo ms i).length ≤ 4096 := by omega
        go_wp2
        go_loopg [21] ms.length (fun g2 s21 wr2 => ∃ j : Nat, j + g2 = ms.length ∧ s21 = .int .i64 (j : Int) ∧ Hid (∀ q, q < j → ahead ms i q = false) ∧ wr = wr2)
        case atStart => exact ⟨0, by omega, rfl, Lib.hid (fun q hq => absurd hq (by omega)), rfl⟩
        case round =>
          obtain ⟨j, hjg, rfl, hall, rfl⟩ := hrel
          cases gk with
          | zero =>
            have hjz : ¬ (j < ms.length) := by omega
            have hl : lone ms i = true := lone_yes fun q hq => hall.out q (by omega)
            have hst := Hyes.out hl
            have Hst := Lib.hid hst
            clear hl hst
            generalize (mostTo ms i).length = n at *
            generalize mostTo ms i = l at *
            go_wp2_with (at_builtin; go_loud (refine wpList_app1 _ rfl _ _ 44 rfl w.heap.size 3 i0 (.int .i64 0) Try.underlying44 hi hz0 hz1 hz2 rfl _ _ _ rfl (hown.alloc _) wr.heap.size (.int .i64 (i : Int)) rfl (cell_newest rfl rfl) rfl (by omega) (by have := hbel.size; simp; omega) ?_); intro v' w1 hown' hgrow; go_loud (have hb1 : Below w.heap.size w w1 := (hbel.alloc hbel.size _).grown hgrow (by have := hbel.size; simp; omega) (own_nil_of hown)))
            go_roundg g
            case measure => omega
            case rel =>
              refine ⟨i + 1, by omega, by go_num, ?_, hb1⟩
              rw [Hst.out]
              have hn : n = l.length := by have := hown.1; simpa using this.symm
              subst hn
              simpa using hown'
          | succ g2 =>
            have hj : j < ms.length := by omega
            obtain ⟨_, _, e, _, x3, y3⟩ := hu.getD hj
            cases e
            replace x3 := keepC hbel x3
            obtain ⟨xj, exj⟩ : ∃ x, x = ms.getD j 0 := ⟨_, rfl⟩
            rw [← exj] at x3 y3
            have hin := satin_any (w := wr) y1 y3
            have Hnext : Hid (ahead ms i j = false → ∀ q, q < j + 1 → ahead ms i q = false) := fun hx q hq => by
              rcases Nat.lt_or_ge q j with h3 | h3
              · exact hall.out q h3
              · obtain rfl : q = j := by omega
                exact hx
            have Hlno : Hid (ahead ms i j = true → lone ms i = false) := fun hx => lone_no hj hx
            have Exj := Lib.hid exj
            clear exj
            by_cases ej : j = i
            · have t1 : ((j : Int) != (i : Int)) = false := by simp [ej]
              have HN := Lib.hid (ahead_self (ms := ms) ej)
              clear ej hin
              go_wp2
              go_roundg g2
              case measure => omega
              case rel => exact ⟨j + 1, by omega, by go_num, Lib.hid (Hnext.out HN.out), rfl⟩
            · have t1 : ((j : Int) != (i : Int)) = true := by simp; omega
              have hv : inB xi xj = true ∨ inB xi xj = false := by cases inB xi xj <;> simp
              rcases hv with hv | hv
              · have hv2 : inB (ms.getD i 0) (ms.getD j 0) = true := by rw [← Exi.out, ← Exj.out]; exact hv
                rw [hv] at hin
                have HC := Lib.hid hin
                by_cases em : xi = xj
                · have t2 : ((xi : Int) != (xj : Int)) = false := by simp [em]
                  by_cases eo : j < i
                  · have HN := Lib.hid (ahead_in ej hv2 (.inr eo))
                    have t3 : decide (j < i) = true := decide_eq_true eo
                    clear em hv hv2 hin eo ej
                    go_wp2_with fail
                    refine HC.out.mono ?_
                    rintro e _ ⟨rfl, rfl⟩
                    go_wp2
                    go_roundg g
                    case measure => omega
                    case rel =>
                      refine ⟨i + 1, by omega, by go_num, ?_, hbel⟩
                      rw [Hno.out (Hlno.out HN.out)]
                      exact hown
                  · have HN := Lib.hid (ahead_not (ms := ms) (i := i) (k := j) (by rw [← Exi.out, ← Exj.out]; exact em) eo)
                    have t3 : decide (j < i) = false := decide_eq_false eo
                    clear em hv hv2 hin eo ej
                    go_wp2_with fail
                    refine HC.out.mono ?_
                    rintro e _ ⟨rfl, rfl⟩
                    go_wp2
                    go_roundg g2
                    case measure => omega
                    case rel => exact ⟨j + 1, by omega, by go_num, Lib.hid (Hnext.out HN.out), rfl⟩
                · have t2 : ((xi : Int) != (xj : Int)) = true := by simp; omega
                  have HN := Lib.hid (ahead_in ej hv2 (.inl (by rw [← Exi.out, ← Exj.out]; exact em)))
                  clear em hv hv2 hin ej
                  go_wp2_with fail
                  refine HC.out.mono ?_
                  rintro e _ ⟨rfl, rfl⟩
                  go_wp2
                  go_roundg g
                  case measure => omega
                  case rel =>
                    refine ⟨i + 1, by omega, by go_num, ?_, hbel⟩
                    rw [Hno.out (Hlno.out HN.out)]
                    exact hown
              · have HN := Lib.hid (ahead_out (ms := ms) (i := i) (k := j) (by rw [← Exi.out, ← Exj.out]; exact hv))
                rw [hv] at hin
                have HC := Lib.hid hin
                clear hv hin ej
                go_wp2_with fail
                refine HC.out.mono ?_
                rintro e _ ⟨rfl, rfl⟩
                go_wp2
                go_roundg g2
                case measure => omega
                case rel => exact ⟨j + 1, by omega, by go_num, Lib.hid (Hnext.out HN.out), rfl⟩
  · have e1 : errK ms = 4 := by unfold errK; rw [if_neg h0]
    have e2 : mostI ms = [] := by unfold mostI; rw [if_neg h0]
    rw [e1] at hck ⊢
    rw [e2]
    have Hck := Lib.hid hck
    clear e1 e2 hck hu h0
    generalize ms.length = L at *
    go_enter Try.func21, Try.ntmps21
    go_wp2
    go_step3
    go_wp2_with fail
    refine Hck.out.mono ?_
    rintro e _ ⟨rfl, rfl⟩
    go_wp2
    try rw [Exit.noGoto_ret]
    go_ret2
    exact ⟨_, rfl, ⟨none, 0, rfl, by simp, by omega, fun x hx => by simp at hx, fun h => absurd h (by simp)⟩, Below.refl _ _⟩

end Go.Proofs.Ytjnjlgknmocdlaa

namespace Go.Proofs.Ytjnjlgknmocdlaa
open Go.RowKit
set_option linter.unusedVariables false
set_option linter.unusedSimpArgs false

theorem small_getD {ms : List Nat} (hs : Small ms) (i : Nat) : ms.getD i 0 < 18446744073709551616 := by
  by_cases h : i < ms.length
  · have e : ms.getD i 0 = ms[i] := by simp [List.getD, h]
    rw [e]
    exact hs.get h
  · have e : ms.getD i 0 = 0 := by simp [List.getD, h]
    rw [e]
    omega
theorem inB_le {a b : Nat} (ha : a < 18446744073709551616) (hb : b < 18446744073709551616) (h : inB a b = true) : a ≤ b := by
  have h1 := (inB_iff ha hb).1 h
  have e : a &&& b = a := by
    refine Nat.eq_of_testBit_eq fun i => ?_
    rw [Nat.testBit_and]
    cases hx : a.testBit i
    · rfl
    · have hi : i < 64 := by
        refine Classical.byContradiction fun hn => ?_
        have := bitB_over ha (show 64 ≤ i by omega)
        rw [bitB_test, hx] at this
        cases this
      have := h1 i hi (by rw [bitB_test]; exact hx)
      rw [bitB_test] at this
      rw [this]
      rfl
  rw [← e]
  exact Nat.and_le_right
theorem inB_trans {a b c : Nat} (ha : a < 18446744073709551616) (hb : b < 18446744073709551616) (hc : c < 18446744073709551616) (h : inB a b = true) (h2 : inB b c = true) : inB a c = true :=
  (inB_iff ha hc).2 fun i hi hx => (inB_iff hb hc).1 h2 i hi ((inB_iff ha hb).1 h i hi hx)
theorem ahead_iff {ms : List Nat} {i k : Nat} : ahead ms i k = true ↔ k ≠ i ∧ inB (ms.getD i 0) (ms.getD k 0) = true ∧ (ms.getD i 0 ≠ ms.getD k 0 ∨ k < i) := by
  unfold ahead
  rw [Bool.and_eq_true, Bool.and_eq_true, Bool.or_eq_true, decide_eq_true_iff, decide_eq_true_iff, decide_eq_true_iff, and_assoc]
theorem lone_iff {ms : List Nat} {i : Nat} : lone ms i = true ↔ ∀ k, k < ms.length → ahead ms i k = false := by
  unfold lone
  rw [List.all_eq_true]
  constructor
  · intro h k hk
    have := h k (List.mem_range.2 hk)
    simpa using this
  · intro h k hk
    rw [h k (List.mem_range.1 hk)]
    rfl
/-- Each mask is in a lone one. -/
theorem lone_above {ms : List Nat} (hs : Small ms) : ∀ (f i : Nat), i < ms.length → (18446744073709551616 - ms.getD i 0) * (ms.length + 1) + i ≤ f → ∃ k, k < ms.length ∧ lone ms k = true ∧ inB (ms.getD i 0) (ms.getD k 0) = true := by
  intro f
  induction f with
  | zero =>
    intro i hi hf
    have h1 := small_getD hs i
    have h2 : 1 ≤ (18446744073709551616 - ms.getD i 0) := by omega
    have h3 := Nat.mul_le_mul_right (ms.length + 1) h2
    omega
  | succ f ih =>
    intro i hi hf
    have h1 := small_getD hs i
    cases hl : lone ms i
    · have hn : ¬ ∀ k, k < ms.length → ahead ms i k = false := fun h => by rw [lone_iff.2 h] at hl; cases hl
      obtain ⟨k, hk, ha⟩ : ∃ k, k < ms.length ∧ ahead ms i k = true := Classical.byContradiction fun h2 => hn fun k hk => by
        cases ha : ahead ms i k
        · rfl
        · exact absurd ⟨k, hk, ha⟩ h2
      obtain ⟨g1, g2, g3⟩ := ahead_iff.1 ha
      have h2 := small_getD hs k
      have h3 := inB_le h1 h2 g2
      have hm : (18446744073709551616 - ms.getD k 0) * (ms.length + 1) + k < (18446744073709551616 - ms.getD i 0) * (ms.length + 1) + i := by
        by_cases he : ms.getD i 0 = ms.getD k 0
        · rw [he]
          have : k < i := g3.resolve_left fun h => h he
          omega
        · have h4 : (18446744073709551616 - ms.getD k 0) + 1 ≤ (18446744073709551616 - ms.getD i 0) := by omega
          have h5 := Nat.mul_le_mul_right (ms.length + 1) h4
          rw [Nat.add_mul] at h5
          omega
      obtain ⟨q, hq, hlq, hin⟩ := ih k hk (by omega)
      exact ⟨q, hq, hlq, inB_trans h1 h2 (small_getD hs q) g2 hin⟩
    · exact ⟨i, hi, hl, inB_self h1⟩
theorem mostTo_mem {ms : List Nat} {n x : Nat} : x ∈ mostTo ms n ↔ x < n ∧ lone ms x = true := by simp [mostTo]
theorem mostL_above {ms : List Nat} (hs : Small ms) {i : Nat} (hi : i < ms.length) : ∃ j, j < (mostL ms).length ∧ inB (ms.getD i 0) (ms.getD ((mostL ms).getD j 0) 0) = true := by
  obtain ⟨k, hk, hl, hin⟩ := lone_above hs _ i hi (Nat.le_refl _)
  have hm : k ∈ mostL ms := mostTo_mem.2 ⟨hk, hl⟩
  obtain ⟨j, hj, rfl⟩ := List.getElem_of_mem hm
  exact ⟨j, hj, by simpa [List.getD, hj] using hin⟩
theorem mostL_at {ms : List Nat} {j : Nat} (hj : j < (mostL ms).length) : (mostL ms).getD j 0 < ms.length ∧ lone ms ((mostL ms).getD j 0) = true := by
  have e : (mostL ms).getD j 0 = (mostL ms)[j] := by simp [List.getD, hj]
  rw [e]
  exact mostTo_mem.1 (List.getElem_mem hj)
theorem mostL_up {ms : List Nat} {i k : Nat} (hk : k < (mostL ms).length) (hik : i < k) : (mostL ms).getD i 0 < (mostL ms).getD k 0 := by
  have hp : List.Pairwise (· < ·) (mostL ms) := List.Pairwise.filter _ List.pairwise_lt_range
  have e1 : (mostL ms).getD i 0 = (mostL ms)[i] := by simp [List.getD, show i < (mostL ms).length by omega]
  have e2 : (mostL ms).getD k 0 = (mostL ms)[k] := by simp [List.getD, hk]
  rw [e1, e2]
  exact List.pairwise_iff_getElem.1 hp i k (by omega) hk hik
/-- None of them is in another one of them. -/
theorem mostL_apart {ms : List Nat} (hs : Small ms) {i k : Nat} (hi : i < (mostL ms).length) (hk : k < (mostL ms).length) (hik : i ≠ k) : inB (ms.getD ((mostL ms).getD i 0) 0) (ms.getD ((mostL ms).getD k 0) 0) = false := by
  obtain ⟨p1, p2⟩ := mostL_at hi
  obtain ⟨q1, q2⟩ := mostL_at hk
  have hne : (mostL ms).getD i 0 ≠ (mostL ms).getD k 0 := by
    rcases Nat.lt_or_gt_of_ne hik with h | h
    · have := mostL_up hk h
      omega
    · have := mostL_up hi h
      omega
  generalize (mostL ms).getD i 0 = p at *
  generalize (mostL ms).getD k 0 = q at *
  cases h : inB (ms.getD p 0) (ms.getD q 0)
  · rfl
  · exfalso
    have h1 := lone_iff.1 p2 q q1
    have h2 := lone_iff.1 q2 p p1
    by_cases he : ms.getD p 0 = ms.getD q 0
    · rcases Nat.lt_or_gt_of_ne hne with h3 | h3
      · rw [ahead_iff.2 ⟨hne, by rw [he]; exact inB_self (small_getD hs q), .inr h3⟩] at h2
        cases h2
      · rw [ahead_iff.2 ⟨fun e => hne e.symm, h, .inr h3⟩] at h1
        cases h1
    · rw [ahead_iff.2 ⟨fun e => hne e.symm, h, .inl he⟩] at h1
      cases h1

def thereTo (ms : List Nat) (i j : Nat) : Bool := (List.range j).any fun k => inB (ms.getD i 0) (ms.getD ((mostL ms).getD k 0) 0)
theorem thereTo_succ (ms : List Nat) (i j : Nat) : thereTo ms i (j + 1) = (thereTo ms i j || inB (ms.getD i 0) (ms.getD ((mostL ms).getD j 0) 0)) := by
  unfold thereTo
  rw [List.range_succ, List.any_append]
  simp
theorem thereTo_all {ms : List Nat} (hs : Small ms) {i : Nat} (hi : i < ms.length) : thereTo ms i (mostL ms).length = true := by
  obtain ⟨j, hj, hin⟩ := mostL_above hs hi
  exact List.any_eq_true.2 ⟨j, List.mem_range.2 hj, hin⟩

theorem andNot_in {a b : Nat} (ha : a < 18446744073709551616) (hb : b < 18446744073709551616) : (bits .andNot .u64 (a : Int) (b : Int) == 0) = inB a b := by
  rw [u64_andNot_nat a b ha hb]
  unfold inB
  generalize a &&& (18446744073709551615 - b) = z
  by_cases h : z = 0
  · subst h; rfl
  · rw [decide_eq_false h]
    exact beq_eq_false_iff_ne.2 (by omega)
/-- The j-th of a list of numbers in memory. -/
theorem ints_getN {w : World} {Z : Zone} {A : Option Addr} {n c : Nat} {l : List Nat} (h : IsInts w Z (.slice A n c) (l.map fun x : Nat => (x : Int))) {j : Nat} (hj : j < l.length) :
    ∃ b o, A = some ⟨b, o, none⟩ ∧ b < w.heap.size ∧ w.cell? ⟨b, o + j, none⟩ = some (.int .i64 (l.getD j 0 : Int)) := by
  obtain ⟨A', c', e, _, _, _, h4⟩ := h
  injection e with e1 e2 e3
  subst e1 e3
  have hl : (l.map fun x : Nat => (x : Int)).length = l.length := by simp
  obtain ⟨b, o, e2, hb, hc⟩ := h4 (by omega)
  refine ⟨b, o, e2, hb, ?_⟩
  have := hc j (by omega)
  rw [List.getElem_map] at this
  rw [this]
  simp [List.getD, hj]

end Go.Proofs.Ytjnjlgknmocdlaa
