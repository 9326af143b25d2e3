/-
  The chapter's first examples: facetroomlaw01.alive is true. No conditions.
  The contracts of nat.Cmp, nat.Of, nat.Word. No conditions.
-/
import Derived.Test.YtamenhffplhddaaGreatLNatD
import Derived.Test.YtamenhffplhddaaGreatLSame
import Derived.Test.YtamenhffplhddaaGreatLCmpB
namespace Go.Proofs.YtamenhffplhddaaGreat
open Go.RowKit
set_option linter.unusedVariables false
set_option linter.unusedSimpArgs false

theorem cell_newest {W : World} {g i : Nat} {cs : Array Value} {t : TypeId} {v : Value} (h : g = W.heap.size) (hv : cs[i]? = some v) : (W.alloc (.cells cs t)).cell? ⟨g, i, none⟩ = some v := by
  subst h
  rw [← hv]
  exact cell_of_row _ _ i cs t (0, 0) (heap_alloc_new W _)
theorem isU_lit {w : World} {g : Nat} {l : List Nat} {n c : Nat} (hn : n = l.length) (hc : n ≤ c) (hm : c ≤ 9223372036854775807) (hs : Small l) (h : ∀ j (hj : j < l.length), w.cell? ⟨g, j, none⟩ = some (.int .u64 (l[j] : Int))) : IsU w old (.slice (some ⟨g, 0, none⟩) n c) l := by
  subst hn
  refine ⟨_, c, rfl, hs, hc, hm, (fun h => by cases h), fun h0 => ⟨g, 0, rfl, trivial, fun h => h.elim, fun j u hu => ?_⟩⟩
  rw [Nat.zero_add]
  have hj : j < l.length := by have := (List.getElem?_eq_some_iff.1 hu).1; simpa using this
  rw [h j hj]
  simpa [hj] using hu

theorem IsU.decN {w : World} {Z : Zone} {v : Value} {l : List Nat} (h : IsU w Z v l) : (good l = true ∧ IsN w Z v (val l) ∧ (limbs (val l)).length = l.length) ∨ good l = false := by
  cases hg : good l with
  | true => exact .inl ⟨rfl, h.num hg, by rw [limbs_val l h.small hg]⟩
  | false => exact .inr rfl

theorem check_goodN {w : World} {Z : Zone} {v : Value} {n : Nat} (h : IsN w Z v n) : Calls Tryz.prog 95 #[v] w fun e w' => e = .returned (.int .i64 0) ∧ w = w' := by
  obtain ⟨A, c, rfl, h⟩ := h
  exact check_good h (good_limbs n)
theorem check_goodS {w : World} {Z : Zone} {A : Option Addr} {c n : Nat} {l : List Nat} (h : IsN w Z (.slice A l.length c) n) (_ : (limbs n).length = l.length) : Calls Tryz.prog 95 #[.slice A l.length c] w fun e w' => e = .returned (.int .i64 0) ∧ w = w' := check_goodN h
theorem check_badU {w : World} {Z : Zone} {v : Value} {l : List Nat} (h : IsU w Z v l) (hg : good l = false) : Calls Tryz.prog 95 #[v] w fun e w' => e = .returned (.int .i64 8) ∧ w = w' := by
  obtain ⟨A, c, rfl, h⟩ := h
  exact check_bad h hg

theorem limbs_one {x : Nat} (h0 : 0 < x) (h1 : x < 18446744073709551616) : limbs x = [x] := by
  have := limbs_val [x] (Small.cons h1 Small.nil) (by simp [good]; omega)
  simpa [val] using this
theorem limbs_two {x y : Nat} (h0 : 0 < y) (h1 : x < 18446744073709551616) (h2 : y < 18446744073709551616) : limbs (x + 18446744073709551616 * y) = [x, y] := by
  have := limbs_val [x, y] (Small.cons h1 (Small.cons h2 Small.nil)) (by simp [good]; omega)
  simpa [val] using this

theorem isN_one {w : World} {g x : Nat} (h0 : 0 < x) (h1 : x < 18446744073709551616) (h : w.cell? ⟨g, 0, none⟩ = some (.int .u64 (x : Int))) : IsN w old (.slice (some ⟨g, 0, none⟩) 1 1) x := by
  unfold IsN
  rw [limbs_one h0 h1]
  exact isU_lit rfl (by omega) (by omega) (Small.cons h1 Small.nil) fun j hj => match j, hj with | 0, _ => h
theorem isN_two {w : World} {g x y : Nat} (h0 : 0 < y) (h1 : x < 18446744073709551616) (h2 : y < 18446744073709551616) (h : w.cell? ⟨g, 0, none⟩ = some (.int .u64 (x : Int))) (h' : w.cell? ⟨g, 1, none⟩ = some (.int .u64 (y : Int))) :
    IsN w old (.slice (some ⟨g, 0, none⟩) 2 2) (x + 18446744073709551616 * y) := by
  unfold IsN
  rw [limbs_two h0 h1 h2]
  exact isU_lit rfl (by omega) (by omega) (Small.cons h1 (Small.cons h2 Small.nil)) fun j hj => match j, hj with | 0, _ => h | 1, _ => h'

end Go.Proofs.YtamenhffplhddaaGreat

namespace Go.Proofs.YtamenhffplhddaaGreat
open Go.RowKit
set_option linter.unusedVariables false
set_option linter.unusedSimpArgs false

theorem same_no {w : World} {Z Y : Zone} {a b : Value} {la lb : List Nat} (ha : IsU w Z a la) (hb : IsU w Y b lb) (h : la ≠ lb) :
    Calls Tryz.prog 127 #[a, b] w fun e w' => e = .returned (.bool false) ∧ Below w.heap.size w w' :=
  (same_dec ha hb).mono fun e w' h' => by rwa [decide_eq_false h] at h'
theorem same_noN {w : World} {Z Y : Zone} {a b : Value} {m n : Nat} (ha : IsN w Z a m) (hb : IsN w Y b n) (h : m ≠ n) :
    Calls Tryz.prog 127 #[a, b] w fun e w' => e = .returned (.bool false) ∧ Below w.heap.size w w' :=
  same_no ha hb fun e => h (limbs_inj e)

set_option maxHeartbeats 800000 in
theorem of_any {w : World} {x : Nat} (hx : x < 18446744073709551616) :
    Calls Tryz.prog 61 #[.int .u64 (x : Int)] w fun e w' => ∃ v, e = .returned v ∧ IsN w' (new w.heap.size) v x ∧ Below w.heap.size w w' := by
  have hb0 : Below w.heap.size w (w.alloc (.cells #[.int .u64 (x : Int)] 88)) := (Below.refl _ w).alloc (Nat.le_refl _) _
  have hu : U64s (w.alloc (.cells #[.int .u64 (x : Int)] 88)) (new w.heap.size) (some ⟨w.heap.size, 0, none⟩) 1 [x] :=
    ⟨Small.cons hx Small.nil, by simp, by omega, (fun h => by cases h), fun _ => ⟨w.heap.size, 0, rfl, Nat.le_refl _, fun _ j => by simp, fun j u hu => by
      match j, hu with
      | 0, hu => simp at hu; subst hu; simp⟩⟩
  have hv : val [x] = x := by simp [val]
  have Hv := Lib.hid hv
  clear hv
  go_enter Tryz.func61, Tryz.ntmps61
  go_wp2_with (go_at_call 104; refine (trim_len hu rfl).mono ?_; rintro e w' ⟨rfl, rfl⟩)
  go_ret
  exact ⟨_, rfl, isN_trimU Hv.out hu, hb0⟩

end Go.Proofs.YtamenhffplhddaaGreat
