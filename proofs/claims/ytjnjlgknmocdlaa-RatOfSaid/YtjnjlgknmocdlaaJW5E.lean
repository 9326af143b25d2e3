/-
  The document's own answer, layer 5: Turned. No conditions but bounds on lengths.
-/
import Derived.Deep.RegionLaw
import Derived.Deep.RegionHeld3
import Derived.Test.YtjnjlgknmocdlaaJW5D
namespace Go.Proofs.Ytjnjlgknmocdlaa
open Go.RowKit
set_option linter.unusedVariables false
set_option linter.unusedSimpArgs false

/-- append of a slice of words to nil, as one step of a region that draws its order. -/
theorem step_appU {P : Program} {ops : Array Oper} {o : Oper} {a : Act} {w : World} {K : Act → World → Prop} {Q : Exit → Act → World → Prop} {E : Prop}
    (hg : o.guard = none) (s x : Operand) (t : TypeId) (hop : o.op = Op.call { callee := Callee.builtin Builtin.append, args := #[s, x], argTypes := #[t, t] })
    (base : Nat) (e : TypeId) (i : TypeInfo) (h1 : P.underlying t = some (.slice e)) (h2 : P.info? e = some i) (h3 : i.zero = some (.int .u64 0)) (h4 : i.size = 1) (h5 : i.bytes = 8)
    (hs : a.eval s = .slice none 0 0) {Z : Zone} {A : Option Addr} {m c : Nat} {l : List Nat} (hm : m = l.length) (hx : a.eval x = .slice A m c) (hl : U64s w Z A c l) (hb : m ≤ 1000000) (hbase : base ≤ w.heap.size)
    (hK : ∀ v' w', w'.ownsRow base e 1 v' m (l.map fun x : Nat => Value.int .u64 (x : Int)) → w.grownBy w' none → K (a.put o.dst v') w') :
    if Region.wanted o (yielded ops a.tmps) = true then Oper.wp P o a w K Q else E := by
  have hw : Region.wanted o (yielded ops a.tmps) = true := by simp [Region.wanted, hg]
  rw [if_pos hw]
  subst hm
  have hown : w.ownsRow base e 1 (.slice none 0 0) 0 [] := World.ownsRow_nil _ _ _ _
  rcases A with _ | ad
  · have hc := hl.nul rfl
    have hcap := hl.cap
    have h0 : l = [] := List.length_eq_zero_iff.1 (by omega)
    subst h0
    subst hc
    have hrun := run_append_owned_none (P := P) w base t o.type e i 1 h1 h2 _ 0 [] hown
    unfold Oper.wp
    simp only [List.length_nil] at hx
    simp [execOp, hop, resolve, invoke, builtin, hs, hx, hrun, Result.andThen]
    exact hK (.slice none 0 0) w (by simpa using hown) (World.grownBy.refl _ _)
  · obtain ⟨v', w', hrun, r1, r2, _⟩ := run_append_own (P := P) w base t o.type e i (.int .u64 0) 1 8 h1 h2 h3 h4 h5 rfl (by omega) (.slice none 0 0) 0 [] hown ad l.length c (l.map fun x : Nat => Value.int .u64 (x : Int)) (by simp)
      (fun j u hu => by
        have hj : j < l.length := by have := (List.getElem?_eq_some_iff.1 hu).1; simpa using this
        obtain ⟨b, o', e1, _, _, hc⟩ := hl.row (by simp; omega)
        injection e1 with e1
        subst e1
        rw [Addr.add_lit]
        exact hc j u hu)
      (fun u hu => by
        obtain ⟨y, _, rfl⟩ := List.mem_map.1 hu
        rfl) (by simp only [maxLen]; omega) (by omega) hbase
    unfold Oper.wp
    simp [execOp, hop, resolve, invoke, builtin, hs, hx, hrun, Result.andThen]
    exact hK v' w' (by simpa using r1) r2

set_option maxRecDepth 100000 in
set_option maxHeartbeats 4000000 in
theorem r5turned_any {w : World} {Z : Zone} {a : Value} {s sg : Bool} {l : List Nat} (ha : IsI w Z a s l) (hl : l.length ≤ 90000) (hsg : (!s && decide (0 < l.length)) = sg) :
    Calls Try.prog 63 #[a] w fun e w' => ∃ Av cv, e = .returned (.agg #[.bool sg, .slice Av l.length cv]) ∧ IsU w' (new w.heap.size) (.slice Av l.length cv) l ∧ Below w.heap.size w w' := by
  obtain ⟨_, rfl, A, c, rfl, hu⟩ := ha
  obtain ⟨bA, bR, hB0⟩ := boxes2 w (.bool s) (.slice A l.length c) (.bool false) (.slice none 0 0) 25
  obtain ⟨a0, a1, _, _, _⟩ := bA
  obtain ⟨i0, hi, hz0, hz1, hz2⟩ := info_parts Try.info34
  have hu0 := hu.below hB0
  have hsm := hu.small
  have hlen := hu.len
  clear hu
  have hcase : (s = true ∧ sg = false) ∨ (s = false ∧ l.length = 0 ∧ sg = false) ∨ (s = false ∧ 0 < l.length ∧ sg = true) := by
    cases s
    · rcases Nat.eq_zero_or_pos l.length with h | h
      · exact .inr (.inl ⟨rfl, h, by rw [← hsg, decide_eq_false (by omega)]; rfl⟩)
      · exact .inr (.inr ⟨rfl, h, by rw [← hsg, decide_eq_true h]; rfl⟩)
    · exact .inl ⟨rfl, hsg.symm⟩
  clear hsg
  have hBd : Below w.heap.size w ((w.alloc (.cells #[.bool s, .slice A l.length c] 25)).alloc (.cells #[.bool false, .slice none 0 0] 25)).drew := hB0.drew
  have hud := hu0.below ((Below.refl _ _).drew)
  have bRd := bR.below ((Below.refl _ _).drew)
  have hszd : ((w.alloc (.cells #[.bool s, .slice A l.length c] 25)).alloc (.cells #[.bool false, .slice none 0 0] 25)).drew.heap.size = w.heap.size + 2 := by simp
  have Hszd := Lib.hid hszd
  clear hszd
  have a0d := (show ((w.alloc (.cells #[.bool s, .slice A l.length c] 25)).alloc (.cells #[.bool false, .slice none 0 0] 25)).drew.cell? ⟨w.heap.size, 0, none⟩ = _ from a0)
  have a1d := (show ((w.alloc (.cells #[.bool s, .slice A l.length c] 25)).alloc (.cells #[.bool false, .slice none 0 0] 25)).drew.cell? ⟨w.heap.size, 1, none⟩ = _ from a1)
  rcases hcase with ⟨rfl, rfl⟩ | ⟨rfl, h0, rfl⟩ | ⟨rfl, h0, rfl⟩
  · go_enter Try.func63, Try.ntmps63
    go_wp2
    first | go_region_law
      ((refine step_appU rfl _ _ 23 rfl (w.heap.size + 2) 34 i0 Try.underlying23 hi hz0 hz1 hz2 rfl rfl rfl hud (by omega) (by simp) ?_; intro v' w1 hown hgrow; have hb1 := (Below.refl (w.heap.size + 2) _).grown hgrow (by simp) (fun k h => by cases h); have k0 := (hb1.cell (p := ⟨w.heap.size, 0, none⟩) (by show w.heap.size < _; omega)).trans a0d; have k1 := (hb1.cell (p := ⟨w.heap.size, 1, none⟩) (by show w.heap.size < _; omega)).trans a1d; obtain ⟨Av, cv, rfl⟩ := own_shape hown; obtain ⟨q0, q1, f0, f1, _⟩ := bRd.below (hb1.mono (Nat.le_of_eq Hszd.out)))) | fail
    all_goals
      have hb2 := hb1.mono (B' := ((w.alloc (.cells #[.bool true, .slice A l.length c] 25)).alloc (.cells #[.bool false, .slice none 0 0] 25)).drew.heap.size) (Nat.le_of_eq Hszd.out)
      have hP := (bRd.below hb2).put (from_ hBd hb2) (by omega) (.bool false) (.slice Av l.length cv)
      have hv : IsU w1 (new (w.heap.size + 2)) (.slice Av l.length cv) l := ⟨Av, cv, rfl, isU_after hsm rfl hown (Nat.le_refl _)⟩
      have hu2 := hP.keep (by omega) hv
      have Hu := Lib.hid hu2
      have HP := Lib.hid hP
      clear hv hu2 hP hown
      go_wp2
      refine bodyPost_ret (res_int rfl _ (w.heap.size + 1) rfl HP.out.c0 HP.out.c1) rfl ?_
      exact ⟨_, _, rfl, Hu.out, HP.out.bel⟩
  · have hd : decide ((0 : Int) < (l.length : Int)) = false := decide_eq_false (by omega)
    have hd2 : decide (0 < l.length) = false := decide_eq_false (by omega)
    have H0 := Lib.hid h0
    clear h0
    go_enter Try.func63, Try.ntmps63
    go_wp2
    first | go_region_held3 (fun w' => w'.cell? ⟨w.heap.size, 0, none⟩ = some (.bool false) ∧ w'.cell? ⟨w.heap.size, 1, none⟩ = some (.slice A l.length c))
      (first
        | go_keep
        | exact ⟨k0, k1⟩)
      ((refine step_appU rfl _ _ 23 rfl (w.heap.size + 2) 34 i0 Try.underlying23 hi hz0 hz1 hz2 rfl rfl rfl hud (by omega) (by simp) ?_; intro v' w1 hown hgrow; have hb1 := (Below.refl (w.heap.size + 2) _).grown hgrow (by simp) (fun k h => by cases h); have k0 := (hb1.cell (p := ⟨w.heap.size, 0, none⟩) (by show w.heap.size < _; omega)).trans a0d; have k1 := (hb1.cell (p := ⟨w.heap.size, 1, none⟩) (by show w.heap.size < _; omega)).trans a1d; obtain ⟨Av, cv, rfl⟩ := own_shape hown; obtain ⟨q0, q1, f0, f1, _⟩ := bRd.below (hb1.mono (Nat.le_of_eq Hszd.out)))) | fail
    all_goals
      have hb2 := hb1.mono (B' := ((w.alloc (.cells #[.bool false, .slice A l.length c] 25)).alloc (.cells #[.bool false, .slice none 0 0] 25)).drew.heap.size) (Nat.le_of_eq Hszd.out)
      have hP := (bRd.below hb2).put (from_ hBd hb2) (by omega) (.bool false) (.slice Av l.length cv)
      have hv : IsU w1 (new (w.heap.size + 2)) (.slice Av l.length cv) l := ⟨Av, cv, rfl, isU_after hsm rfl hown (Nat.le_refl _)⟩
      have hu2 := hP.keep (by omega) hv
      have Hu := Lib.hid hu2
      have HP := Lib.hid hP
      clear hv hu2 hP hown
      go_wp2
      refine bodyPost_ret (res_int rfl _ (w.heap.size + 1) rfl HP.out.c0 HP.out.c1) rfl ?_
      exact ⟨_, _, rfl, Hu.out, HP.out.bel⟩
  · have hd : (0 : Int) < (l.length : Int) := by omega
    go_enter Try.func63, Try.ntmps63
    go_wp2
    first | go_region_held3 (fun w' => w'.cell? ⟨w.heap.size, 0, none⟩ = some (.bool false) ∧ w'.cell? ⟨w.heap.size, 1, none⟩ = some (.slice A l.length c))
      (first
        | go_keep
        | exact ⟨k0, k1⟩)
      ((refine step_appU rfl _ _ 23 rfl (w.heap.size + 2) 34 i0 Try.underlying23 hi hz0 hz1 hz2 rfl rfl rfl hud (by omega) (by simp) ?_; intro v' w1 hown hgrow; have hb1 := (Below.refl (w.heap.size + 2) _).grown hgrow (by simp) (fun k h => by cases h); have k0 := (hb1.cell (p := ⟨w.heap.size, 0, none⟩) (by show w.heap.size < _; omega)).trans a0d; have k1 := (hb1.cell (p := ⟨w.heap.size, 1, none⟩) (by show w.heap.size < _; omega)).trans a1d; obtain ⟨Av, cv, rfl⟩ := own_shape hown; obtain ⟨q0, q1, f0, f1, _⟩ := bRd.below (hb1.mono (Nat.le_of_eq Hszd.out)))) | fail
    all_goals
      have hb2 := hb1.mono (B' := ((w.alloc (.cells #[.bool false, .slice A l.length c] 25)).alloc (.cells #[.bool false, .slice none 0 0] 25)).drew.heap.size) (Nat.le_of_eq Hszd.out)
      have hP := (bRd.below hb2).put (from_ hBd hb2) (by omega) (.bool true) (.slice Av l.length cv)
      have hv : IsU w1 (new (w.heap.size + 2)) (.slice Av l.length cv) l := ⟨Av, cv, rfl, isU_after hsm rfl hown (Nat.le_refl _)⟩
      have hu2 := hP.keep (by omega) hv
      have Hu := Lib.hid hu2
      have HP := Lib.hid hP
      clear hv hu2 hP hown
      go_wp2
      refine bodyPost_ret (res_int rfl _ (w.heap.size + 1) rfl HP.out.c0 HP.out.c1) rfl ?_
      exact ⟨_, _, rfl, Hu.out, HP.out.bel⟩

end Go.Proofs.Ytjnjlgknmocdlaa
