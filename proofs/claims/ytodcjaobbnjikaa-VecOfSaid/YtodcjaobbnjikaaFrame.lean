/-
  Arguments of the statements, opened: slices of words. No conditions.
-/
import Derived.Test.YtodcjaobbnjikaaRows
import Derived.ProofKit
import Derived.OpenShut
import Derived.ShutString
import Derived.ChangeOld
import Derived.Test.YtodcjaobbnjikaaMem
namespace Go.Proofs.Ytodcjaobbnjikaa
open Go.ChangeShapes Go.WideShapes Go.ChangeAt Go.RowKit
set_option linter.unusedVariables false
set_option linter.unusedSimpArgs false

theorem ownKnob_ : ownKnob Try.prog.godebug = none := by kernel_rfl
theorem laidOut_ : laidOutB Try.prog = true := by kernel_rfl

theorem list_of_ints (zs : List Int) (h : ∀ n ∈ zs, (Lit.int .u64 n).wf = true) : ∃ l : List Nat, Small l ∧ zs = l.map fun x : Nat => (x : Int) := by
  induction zs with
  | nil => exact ⟨[], Small.nil, rfl⟩
  | cons z zs ih =>
    obtain ⟨l, hs, rfl⟩ := ih fun n hn => h n (List.mem_cons_of_mem _ hn)
    have hz := bounds_u64 (h z List.mem_cons_self)
    exact ⟨z.toNat :: l, Small.cons (by omega) hs, by simp; omega⟩

theorem open_words {H : Type} {enc : TypeId × Value → H} {P : Program} {W : World} {base b0 : Nat} {held : Bool} {r : Reach} {t e : TypeId} {v : Value} {d : DataW H} {p : List MemPlace}
    (ht : P.underlying t = some (.slice e)) (he : P.underlying e = some (.int .u64)) (hc : P.cellsOf e = 1) (hv : Value.okWide P W r b0 t v) (h : DataW.Trod enc P W base (fun _ => true) held t v d p) :
    ∃ l, IsU W old v l := by
  obtain ⟨a, len, cap, rfl⟩ := okWide_slice ht hv
  obtain ⟨fuel, hf⟩ := h
  rcases open_ints ht he hc hf with ⟨hcs, _⟩ | ⟨x, l, c, zs, hcs, _, hl, hm, hz, _, hcell, hwz⟩
  · simp [Value.cells] at hcs
    obtain ⟨rfl, rfl, rfl⟩ := hcs
    exact ⟨[], IsU.nil _ _⟩
  · simp [Value.cells] at hcs
    obtain ⟨rfl, rfl, rfl⟩ := hcs
    simp only [if_true] at hz
    obtain ⟨ws, hs, rfl⟩ := list_of_ints zs hwz
    have hwl : ws.length = cap := by simpa using hz
    refine ⟨ws.take len, some x, cap, ?_, hs.take _, by rw [List.length_take]; omega, by simpa [maxLen] using hm, (fun h => by cases h), fun h0 => ?_⟩
    · rw [List.length_take]
      congr 1
      omega
    · have hlen : 0 < len := by
        rcases Nat.eq_zero_or_pos len with h | h
        · subst h; simp at h0
        · exact h
      have hc0 := hcell 0 (by simp; omega)
      have hspot : x.spot = none := by simpa [Addr.add] using World.cell?_spot hc0
      obtain ⟨b, o, spot⟩ := x
      simp only at hspot
      subst hspot
      refine ⟨b, o, rfl, trivial, fun h => h.elim, fun j u hu => ?_⟩
      have hj : j < (ws.take len).length := by have := (List.getElem?_eq_some_iff.1 hu).1; simpa using this
      have hj' : j < ws.length := by rw [List.length_take] at hj; omega
      have hcj := hcell j (by simpa using hj')
      rw [Addr.add_lit] at hcj
      rw [hcj, ← hu]
      rw [List.length_take] at hj
      simp [List.getD, List.getElem?_take, hj', show j < len by omega]

end Go.Proofs.Ytodcjaobbnjikaa
