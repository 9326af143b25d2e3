/- The contracts of nat.Cmp, nat.Of, nat.Word. No conditions. -/
import Derived.Test.YtdncgncijbnjpaaGreatRNatD
import Derived.Test.YtdncgncijbnjpaaGreatRSame
import Derived.Test.YtdncgncijbnjpaaGreatRCmpB
set_option linter.unusedVariables false
set_option linter.unusedSimpArgs false
set_option maxRecDepth 100000
set_option maxHeartbeats 40000000
namespace Go.Proofs.YtdncgncijbnjpaaGreat
open Go.Lib (hid)
open Go.RowKit
variable {g x : Nat} {v : Value}
theorem cell_newest {W : World} {i : Nat} {cs : Array Value} {t : TypeId} (h : g = W.heap.size) (hv : cs[i]? = some v) : (W.alloc (.cells cs t)).cell? ⟨g, i, none⟩ = some v := by
 subst h
 rw [← hv]
 exact cell_of_row _ _ i cs t (0, 0) (heap_alloc_new W _)
theorem isU_lit {w : World} {l : List Nat} {n c : Nat} (hn : n = l.length) (hc : n ≤ c) (hm : c ≤ 9223372036854775807) (hs : Small l) (h : ∀ j (hj : j < l.length), w.cell? ⟨g, j, none⟩ = some (.int .u64 (l[j] : Int))) : IsU w old (.slice (some ⟨g, 0, none⟩) n c) l := by
 subst hn
 refine ⟨_, c, rfl, hs, hc, hm, (fun h => by cases h), fun h0 => ⟨g, 0, rfl, trivial, fun h => h.elim, fun j u hu => ?_⟩⟩
 rw [Nat.zero_add]
 have hj : j < l.length := by have := (List.getElem?_eq_some_iff.1 hu).1; simpa using this
 rw [h j hj]
 simpa [hj] using hu
theorem check_goodN {w : World} {Z : Zone} {n : Nat} (h : IsN w Z v n) : Calls Tryz.prog 223 #[v] w fun e w' => e = .returned (.int .i64 0) ∧ w = w' := by
 obtain ⟨A, c, rfl, h⟩ := h
 exact check_good h (good_limbs n)
theorem limbs_one (h0 : 0 < x) (h1 : x < 18446744073709551616) : limbs x = [x] := by
 have := limbs_val [x] (Small.cons h1 Small.nil) (by simp [good]; omega)
 simpa [val] using this
theorem isN_one {w : World} (h0 : 0 < x) (h1 : x < 18446744073709551616) (h : w.cell? ⟨g, 0, none⟩ = some (.int .u64 (x : Int))) : IsN w old (.slice (some ⟨g, 0, none⟩) 1 1) x := by
 unfold IsN
 rw [limbs_one h0 h1]
 exact isU_lit rfl (by omega) (by omega) (Small.cons h1 Small.nil) fun j hj => match j, hj with | 0, _ => h
theorem of_any {w : World} (hx : x < 18446744073709551616) :
  Calls Tryz.prog 110 #[.int .u64 (x : Int)] w fun e w' => ∃ v, e = .returned v ∧ IsN w' (new w.heap.size) v x ∧ Below w.heap.size w w' := by
 have D : Below w.heap.size w (w.alloc (.cells #[.int .u64 (x : Int)] 143)) := (Below.refl _ w).alloc (Nat.le_refl _) _
 have B : U64s (w.alloc (.cells #[.int .u64 (x : Int)] 143)) (new w.heap.size) (some ⟨w.heap.size, 0, none⟩) 1 [x] :=
  ⟨Small.cons hx Small.nil, by simp, by omega, (fun h => by cases h), fun _ => ⟨w.heap.size, 0, rfl, Nat.le_refl _, fun _ j => by simp, fun j u B => by
   match j, B with
   | 0, B => simp at B; subst B; simp⟩⟩
 have C : val [x] = x := by simp [val]
 have E := hid C
 clear C
 go_enter Tryz.func110, Tryz.ntmps110
 go_wp2_with (go_at_call 163; refine (trim_len B rfl).mono ?_; rintro e w' ⟨rfl, rfl⟩)
 go_ret
 exact ⟨_, rfl, isN_trimU E.out B, D⟩
end Go.Proofs.YtdncgncijbnjpaaGreat
