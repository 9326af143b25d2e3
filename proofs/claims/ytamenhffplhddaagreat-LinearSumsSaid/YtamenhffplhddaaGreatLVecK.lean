/-
  Rows of whole numbers at any words: what a row is in memory, vec.Check, vec.checked of one and two rows. No conditions but bounds on lengths.
  Arguments of the statements, opened: rows of whole numbers. No conditions.
  Rows of whole numbers: vec.checked at any words; vec.sum and vec.product of numbers. No conditions but bounds on lengths.
  Rows of whole numbers: vec.each of the closures of Add, Scale and Mix. No conditions but bounds on lengths.
  Rows of whole numbers: the closures of vec.Add, Scale and Mix. No conditions but bounds on lengths.
  Rows of whole numbers by name; vec.Dot. No conditions but bounds on lengths.
  Rows of whole numbers: vec.Add, Scale and Mix. No conditions but bounds on lengths.
  Rows of whole numbers: the document's Great and Same at any words; rows of ints as rows of numbers. No conditions but bounds on lengths.
  The chapter's first examples of rows. No conditions.
-/
import Derived.Deep.RegionHeld3
import Derived.Test.YtamenhffplhddaaGreatLWhN
import Derived.Test.YtamenhffplhddaaGreatLWhJ
import Derived.Test.YtamenhffplhddaaGreatLFrameB
import Derived.Test.YtamenhffplhddaaGreatLVecC
namespace Go.Proofs.YtamenhffplhddaaGreat
open Go.RowKit
set_option linter.unusedVariables false
set_option linter.unusedSimpArgs false

/-- A row of signs and words in memory. -/
structure VecAt (w : World) (Z : Zone) (A : Option Addr) (c : Nat) (ps : List (Bool × List Nat)) : Prop where
  cap : ps.length ≤ c
  max : c ≤ 9223372036854775807
  row : 0 < ps.length → ∃ b o, A = some ⟨b, o, none⟩ ∧ Z.blk b ∧ b < w.heap.size ∧ (Z.soft → ∀ j, w.frozen? ⟨b, o + j, none⟩ = false) ∧
    ∀ j (hj : j < ps.length), ∃ B d, w.cell? ⟨b, o + j * 2, none⟩ = some (.bool ps[j].1) ∧ w.cell? ⟨b, o + j * 2 + 1, none⟩ = some (.slice B ps[j].2.length d) ∧ U64s w Z B d ps[j].2

def IsVec (w : World) (Z : Zone) (v : Value) (ps : List (Bool × List Nat)) : Prop := ∃ A c, v = .slice A ps.length c ∧ VecAt w Z A c ps

theorem VecAt.nil (w : World) (Z : Zone) : VecAt w Z none 0 [] := ⟨by simp, by omega, fun h => absurd h (by simp)⟩
theorem VecAt.below {w w' : World} {Z : Zone} {A : Option Addr} {c : Nat} {ps : List (Bool × List Nat)} (h : VecAt w Z A c ps) (hb : Below w.heap.size w w') : VecAt w' Z A c ps := by
  refine ⟨h.cap, h.max, fun h0 => ?_⟩
  obtain ⟨b, o, e, h1, h2, h3, h4⟩ := h.row h0
  refine ⟨b, o, e, h1, Nat.lt_of_lt_of_le h2 hb.size, fun hs j => ((bcell hb).2 b (o + j) h2).trans (h3 hs j), fun j hj => ?_⟩
  obtain ⟨B, d, c0, c1, hu⟩ := h4 j hj
  exact ⟨B, d, keepC hb c0, keepC hb c1, hu.below hb⟩
theorem VecAt.mono {w : World} {Z Y : Zone} {A : Option Addr} {c : Nat} {ps : List (Bool × List Nat)} (h : VecAt w Z A c ps) (hz : Z.le Y) : VecAt w Y A c ps := by
  refine ⟨h.cap, h.max, fun h0 => ?_⟩
  obtain ⟨b, o, e, h1, h2, h3, h4⟩ := h.row h0
  refine ⟨b, o, e, hz.1 b h1, h2, fun hs => h3 (hz.2 hs), fun j hj => ?_⟩
  obtain ⟨B, d, c0, c1, hu⟩ := h4 j hj
  exact ⟨B, d, c0, c1, hu.mono hz⟩
theorem VecAt.keep {w w' : World} {Z : Zone} {A : Option Addr} {c : Nat} {ps : List (Bool × List Nat)} (h : VecAt w Z A c ps) (hs : w.heap.size ≤ w'.heap.size) (hk : ∀ b, Z.blk b → b < w.heap.size → w'.heap[b]? = w.heap[b]?) : VecAt w' Z A c ps := by
  refine ⟨h.cap, h.max, fun h0 => ?_⟩
  obtain ⟨b, o, e, h1, h2, h3, h4⟩ := h.row h0
  have hb := hk b h1 h2
  refine ⟨b, o, e, h1, by omega, fun hs j => (World.frozen?_of_block (a := ⟨b, o + j, none⟩) hb).trans (h3 hs j), fun j hj => ?_⟩
  obtain ⟨B, d, c0, c1, hu⟩ := h4 j hj
  exact ⟨B, d, (World.cell?_of_block (a := ⟨b, o + j * 2, none⟩) hb).trans c0, (World.cell?_of_block (a := ⟨b, o + j * 2 + 1, none⟩) hb).trans c1, hu.keep hk⟩
theorem VecAt.len {w : World} {Z : Zone} {A : Option Addr} {c : Nat} {ps : List (Bool × List Nat)} (h : VecAt w Z A c ps) : ps.length ≤ 9223372036854775807 := Nat.le_trans h.cap h.max
theorem VecAt.small {w : World} {Z : Zone} {A : Option Addr} {c : Nat} {ps : List (Bool × List Nat)} (h : VecAt w Z A c ps) : ∀ p ∈ ps, Small p.2 := fun p hp => by
  obtain ⟨j, hj, rfl⟩ := List.getElem_of_mem hp
  obtain ⟨b, o, _, _, _, _, h4⟩ := h.row (by omega)
  obtain ⟨B, d, _, _, hu⟩ := h4 j hj
  exact hu.small
/-- The place of the j-th number, and it. -/
theorem VecAt.at {w : World} {Z : Zone} {A : Option Addr} {c : Nat} {ps : List (Bool × List Nat)} (h : VecAt w Z A c ps) {j : Nat} (hj : j < ps.length) :
    ∃ b o B d, A = some ⟨b, o, none⟩ ∧ b < w.heap.size ∧ w.cell? ⟨b, o + j * 2, none⟩ = some (.bool ps[j].1) ∧ w.cell? ⟨b, o + j * 2 + 1, none⟩ = some (.slice B ps[j].2.length d) ∧ U64s w Z B d ps[j].2 := by
  obtain ⟨b, o, e, _, h2, _, h4⟩ := h.row (by omega)
  obtain ⟨B, d, c0, c1, hu⟩ := h4 j hj
  exact ⟨b, o, B, d, e, h2, c0, c1, hu⟩

def okV (ps : List (Bool × List Nat)) : Bool := decide (ps.length ≤ 64) && ps.all fun p => okI p.1 p.2
def errV (ps : List (Bool × List Nat)) : Int := if okV ps = true then 0 else 8

set_option maxRecDepth 100000 in
set_option maxHeartbeats 1000000 in
theorem vcheck1_any {w : World} {Z : Zone} {s : Bool} {l : List Nat} {A : Option Addr} {c : Nat} (hu : U64s w Z A c l) :
    Calls Tryz.prog 131 #[.agg #[.bool s, .slice A l.length c]] w fun e w' => e = .returned (.bool (!okI s l)) ∧ Below w.heap.size w w' := by
  have hal : Below w.heap.size w (w.alloc (.cells #[.bool s, .slice A l.length c] 25)) := (Below.refl _ _).alloc (Nat.le_refl _) _
  obtain ⟨x0, x1, _, _, _⟩ := Box.new w (.bool s) (.slice A l.length c) 25
  have hck := wcheck_any (a := .agg #[.bool s, .slice A l.length c]) ⟨_, rfl, A, c, rfl, hu.below hal⟩
  have hE : errC s l = if okI s l = true then 0 else 8 := rfl
  rw [hE] at hck
  have Hal := Lib.hid hal
  cases hok : okI s l
  all_goals
    rw [hok] at hck
    simp only [Bool.false_eq_true, if_true, if_false] at hck
    have Hck := Lib.hid hck
    clear hck hE hok hu hal
    generalize l.length = L at *
    go_enter Tryz.func131, Tryz.ntmps131
    go_wp2_with fail
    refine Hck.out.mono ?_
    rintro e w1 ⟨rfl, hb1⟩
    go_wp2
    go_ret
    exact ⟨rfl, from_ Hal.out hb1⟩

set_option maxRecDepth 100000 in
set_option maxHeartbeats 1000000 in
theorem vindex_check {w : World} {Z : Zone} {A : Option Addr} {c : Nat} {ps : List (Bool × List Nat)} (ha : VecAt w Z A c ps) (hl : ps.length ≤ 1000000000000) :
    Calls Tryz.prog 146 #[.slice A ps.length c, .func (.func 131) #[] #[]] w fun e w' => (∃ r, e = .returned (.int .i64 r) ∧ decide (0 ≤ r) = !(ps.all fun p => okI p.1 p.2)) ∧ Below w.heap.size w w' := by
  go_enter Tryz.func146, Tryz.ntmps146
  go_wp2
  go_loopw [8] (fun i wr => ∃ k : Nat, k ≤ ps.length ∧ i = .int .i64 k ∧ Below w.heap.size w wr ∧ Hid (∀ j (hj : j < ps.length), j < k → okI ps[j].1 ps[j].2 = true)) (fun i _ => ps.length - (intOf i).toNat)
  case atStart => exact ⟨0, Nat.zero_le _, rfl, Below.refl _ _, fun j hj h => absurd h (by omega)⟩
  case round =>
    obtain ⟨k, hk, rfl, hbel, hz⟩ := hrel
    by_cases hlt : k < ps.length
    · obtain ⟨b, o, B, d, rfl, hbb, c0, c1, hu⟩ := (ha.below hbel).at hlt
      have hck := vcheck1_any (s := ps[k].1) hu
      have hok : okI ps[k].1 ps[k].2 = true ∨ okI ps[k].1 ps[k].2 = false := by cases okI ps[k].1 ps[k].2 <;> simp
      have Hall : Hid (okI ps[k].1 ps[k].2 = true → ∀ j (hj : j < ps.length), j < k + 1 → okI ps[j].1 ps[j].2 = true) := fun hx j hj hjk => by
        rcases Nat.lt_or_ge j k with h1 | h1
        · exact hz.out j hj h1
        · obtain rfl : j = k := by omega
          exact hx
      have Hnone : Hid (okI ps[k].1 ps[k].2 = false → (ps.all fun p => okI p.1 p.2) = false) := fun hx => by
        cases hall : ps.all (fun p => okI p.1 p.2)
        · rfl
        · have := List.all_eq_true.1 hall ps[k] (List.getElem_mem hlt)
          rw [this] at hx
          cases hx
      clear hu hz
      generalize ps[k].1 = s at *
      generalize ps[k].2 = l at *
      rcases hok with hok | hok
      all_goals
        rw [hok] at hck
        have Hck := Lib.hid hck
        have Hok := Lib.hid hok
        clear hck hok
        go_wp2_with fail
        refine Hck.out.mono ?_
        rintro e w1 ⟨rfl, hb2⟩
        have hb3 := from_ hbel hb2
        go_wp2
      · go_roundw
        case rel => exact ⟨k + 1, by omega, by go_num, hb3, Lib.hid (Hall.out Hok.out)⟩
        case measure => simp [intOf]; omega
      · go_ret
        exact ⟨⟨_, rfl, by rw [Hnone.out Hok.out]; exact decide_eq_true (by omega)⟩, hb3⟩
    · obtain rfl : k = ps.length := by omega
      have he : (ps.all fun p => okI p.1 p.2) = true := by
        rw [List.all_eq_true]
        intro p hp
        obtain ⟨j, hj, rfl⟩ := List.getElem_of_mem hp
        exact hz.out j hj hj
      have He := Lib.hid he
      clear he hz
      go_wp2
      go_ret
      exact ⟨⟨_, rfl, by rw [He.out]; rfl⟩, hbel⟩

set_option maxRecDepth 100000 in
set_option maxHeartbeats 1000000 in
theorem vcontains_check {w : World} {Z : Zone} {A : Option Addr} {c : Nat} {ps : List (Bool × List Nat)} (ha : VecAt w Z A c ps) (hl : ps.length ≤ 1000000000000) :
    Calls Tryz.prog 130 #[.slice A ps.length c, .func (.func 131) #[] #[]] w fun e w' => e = .returned (.bool (!(ps.all fun p => okI p.1 p.2))) ∧ Below w.heap.size w w' := by
  have hix := vindex_check ha hl
  have Hix := Lib.hid hix
  clear hix ha
  generalize ps.length = L at *
  generalize (ps.all fun p => okI p.1 p.2) = R at *
  go_enter Tryz.func130, Tryz.ntmps130
  go_wp2_with fail
  refine Hix.out.mono ?_
  rintro e w1 ⟨⟨r, rfl, hr⟩, hb1⟩
  go_wp2
  go_ret
  exact ⟨rfl, hb1⟩

set_option maxRecDepth 100000 in
set_option maxHeartbeats 1000000 in
theorem vcheck_any {w : World} {Z : Zone} {A : Option Addr} {c : Nat} {ps : List (Bool × List Nat)} (ha : VecAt w Z A c ps) :
    Calls Tryz.prog 113 #[.slice A ps.length c] w fun e w' => e = .returned (.int .i64 (errV ps)) ∧ Below w.heap.size w w' := by
  by_cases hl : ps.length ≤ 64
  · have hct := vcontains_check ha (by omega)
    have hd : decide ((64 : Int) < (ps.length : Int)) = false := decide_eq_false (by omega)
    have he : errV ps = if (ps.all fun p => okI p.1 p.2) = true then 0 else 8 := by
      unfold errV okV
      rw [decide_eq_true hl, Bool.true_and]
    rw [he]
    clear ha he
    cases hR : (ps.all fun p => okI p.1 p.2)
    all_goals
      rw [hR] at hct
      have Hct := Lib.hid hct
      clear hct hR hl
      simp only [Bool.false_eq_true, if_true, if_false]
      generalize ps.length = L at *
      go_enter Tryz.func113, Tryz.ntmps113
      go_wp2_with fail
      refine Hct.out.mono ?_
      rintro e w1 ⟨rfl, hb1⟩
      go_wp2
      go_ret
      exact ⟨rfl, hb1⟩
  · have hd : decide ((64 : Int) < (ps.length : Int)) = true := decide_eq_true (by omega)
    have he : errV ps = 8 := by
      unfold errV okV
      rw [decide_eq_false hl, Bool.false_and]
      rfl
    rw [he]
    clear ha he hl
    generalize ps.length = L at *
    go_enter Tryz.func113, Tryz.ntmps113
    go_wp2
    go_ret
    exact ⟨rfl, Below.refl _ _⟩

end Go.Proofs.YtamenhffplhddaaGreat

namespace Go.Proofs.YtamenhffplhddaaGreat
open Go.ChangeShapes Go.WideShapes Go.ChangeAt Go.RowKit
set_option linter.unusedVariables false
set_option linter.unusedSimpArgs false

/-- What is known of the type of whole numbers. -/
structure WholeT (P : Program) (t : TypeId) (fs : Array Field) (f0 f1 : Field) (e : TypeId) : Prop where
  ht : P.underlying t = some (.struct fs)
  hn : P.cellsOf t = 2
  h0 : fs[0]? = some f0
  h1 : fs[1]? = some f1
  o0 : f0.offset = 0
  o1 : f1.offset = 1
  c0 : P.cellsOf f0.type = 1
  c1 : P.cellsOf f1.type = 1
  hb : P.underlying f0.type = some .bool
  hs : P.underlying f1.type = some (.slice e)
  he : P.underlying e = some (.int .u64)
  hc : P.cellsOf e = 1

theorem open_wholeC {H : Type} {enc : TypeId × Value → H} {P : Program} {W : World} {base : Nat} {held : Bool} {t e : TypeId} {fs : Array Field} {f0 f1 : Field} {fuel : Nat} {cs : List Value} {x : DataW H × List MemPlace}
    (T : WholeT P t fs f0 f1 e) (hf : DataW.trod enc P W base (fun _ => true) held fuel t cs = some x) :
    ∃ s v l, cs = [.bool s, v] ∧ IsU W old v l := by
  obtain ⟨xs, n, _, _, hl, _, hfs⟩ := DataW.trod_struct T.ht hf
  rw [T.hn] at hl
  have e0 := hfs 0 f0 T.h0
  have e1 := hfs 1 f1 T.h1
  obtain ⟨a, b, rfl⟩ : ∃ a b, cs = [a, b] := by
    match cs, hl with
    | [a, b], _ => exact ⟨a, b, rfl⟩
  rw [T.o0, T.c0] at e0
  rw [T.o1, T.c1] at e1
  simp at e0 e1
  have g0 : ∃ y, DataW.trod enc P W base (fun _ => true) held n f0.type [a] = some y := by
    cases hx : xs[0]? with
    | some y => exact ⟨y, by simpa [hx] using e0⟩
    | none =>
      have : xs.length = fs.size := by assumption
      have h2 : 0 < fs.size := by
        rcases Nat.eq_zero_or_pos fs.size with h | h
        · have h3 := T.h0; rw [Array.getElem?_eq_none (by omega)] at h3; cases h3
        · exact h
      rw [List.getElem?_eq_none_iff] at hx
      omega
  have g1 : ∃ y, DataW.trod enc P W base (fun _ => true) held n f1.type [b] = some y := by
    cases hx : xs[1]? with
    | some y => exact ⟨y, by simpa [hx] using e1⟩
    | none =>
      have : xs.length = fs.size := by assumption
      have h2 : 1 < fs.size := by
        rcases Nat.lt_or_ge 1 fs.size with h | h
        · exact h
        · have h3 := T.h1; rw [Array.getElem?_eq_none (by omega)] at h3; cases h3
      rw [List.getElem?_eq_none_iff] at hx
      omega
  obtain ⟨y0, g0⟩ := g0
  obtain ⟨y1, g1⟩ := g1
  obtain ⟨s, hs0, _⟩ := DataW.trod_bool T.hb g0
  obtain ⟨u, l, hu, hl⟩ := open_wordsC T.hs T.he T.hc g1
  injection hs0 with hs0 _
  injection hu with hu _
  subst hs0 hu
  exact ⟨s, _, l, rfl, hl⟩

theorem list_of_each {α : Type} {R : Nat → α → Prop} : ∀ (n : Nat), (∀ j, j < n → ∃ a, R j a) → ∃ l : List α, l.length = n ∧ ∀ j (hj : j < l.length), R j l[j] := by
  intro n
  induction n with
  | zero => exact fun _ => ⟨[], rfl, fun j hj => absurd hj (by simp)⟩
  | succ n ih =>
    intro h
    obtain ⟨l, hl, hr⟩ := ih fun j hj => h j (by omega)
    obtain ⟨a, ha⟩ := h n (by omega)
    refine ⟨l ++ [a], by simp [hl], fun j hj => ?_⟩
    rw [List.length_append, List.length_singleton] at hj
    by_cases hjl : j < l.length
    · rw [List.getElem_append_left hjl]
      exact hr j hjl
    · obtain rfl : j = n := by omega
      rw [List.getElem_append_right (by omega)]
      simpa [hl] using ha

theorem open_vecC {H : Type} {enc : TypeId × Value → H} {P : Program} {W : World} {base : Nat} {held : Bool} {tv t e : TypeId} {fs : Array Field} {f0 f1 : Field} {fuel : Nat} {cs : List Value} {x : DataW H × List MemPlace}
    (hv : P.underlying tv = some (.slice t)) (T : WholeT P t fs f0 f1 e) (hf : DataW.trod enc P W base (fun _ => true) held fuel tv cs = some x) :
    ∃ v ps, cs = [v] ∧ IsVec W old v ps := by
  rcases DataW.trod_slice hv hf with ⟨hcs, _⟩ | ⟨a, len, cap, elems, rest, n, _, rfl, rfl, hb, hl, hm, hlen, hel, _, _⟩
  · exact ⟨_, [], hcs, none, 0, rfl, VecAt.nil _ _⟩
  by_cases h0 : len = 0
  · subst h0
    exact ⟨_, [], rfl, some a, cap, rfl, by simp, by simpa [maxLen] using hm, fun h => absurd h (by simp)⟩
  have hcell : ∀ j, j < len → ∃ s B d l, W.cell? ((a.add (j * 2)).add 0) = some (.bool s) ∧ W.cell? ((a.add (j * 2)).add 1) = some (.slice B (l : List Nat).length d) ∧ U64s W old B d l := by
    intro j hjl
    have h1 := hel j hjl
    have hy : elems[j]? = some (elems[j]'(by omega)) := List.getElem?_eq_getElem (by omega)
    rw [hy, Option.bind_eq_some_iff] at h1
    obtain ⟨cs', hcs, ht⟩ := h1
    obtain ⟨s, v, l, rfl, B, d, rfl, hu⟩ := open_wholeC T ht
    rw [T.hn] at hcs
    obtain ⟨_, _, hc⟩ := World.cells?_some hcs
    exact ⟨s, B, d, l, hc 0 (by omega), hc 1 (by omega), hu⟩
  have hspot : a.spot = none := by
    obtain ⟨s, B, d, l, h1, _, _⟩ := hcell 0 (by omega)
    simpa [Addr.add] using World.cell?_spot h1
  obtain ⟨b, o, spot⟩ := a
  simp only at hspot
  subst hspot
  obtain ⟨ps, hpl, hps⟩ := list_of_each (R := fun j (p : Bool × List Nat) => ∃ B d, W.cell? ⟨b, o + j * 2, none⟩ = some (.bool p.1) ∧ W.cell? ⟨b, o + j * 2 + 1, none⟩ = some (.slice B p.2.length d) ∧ U64s W old B d p.2) len (fun j hj => by
    obtain ⟨s, B, d, l, h1, h2, h3⟩ := hcell j hj
    simp only [Addr.add_lit] at h1 h2
    exact ⟨(s, l), B, d, h1, h2, h3⟩)
  have hbl : b < W.heap.size := by
    obtain ⟨B, d, h1, _, _⟩ := hps 0 (by omega)
    exact lt_of_cell h1
  exact ⟨_, ps, rfl, some ⟨b, o, none⟩, cap, by rw [hpl], by omega, by simpa [maxLen] using hm, fun _ => ⟨b, o, rfl, trivial, hbl, fun h => h.elim, hps⟩⟩

theorem open_vec {H : Type} {enc : TypeId × Value → H} {P : Program} {W : World} {base b0 : Nat} {held : Bool} {r : Reach} {tv t e : TypeId} {fs : Array Field} {f0 f1 : Field} {v : Value} {d : DataW H} {p : List MemPlace}
    (hv : P.underlying tv = some (.slice t)) (T : WholeT P t fs f0 f1 e) (hw : Value.okWide P W r b0 tv v) (h : DataW.Trod enc P W base (fun _ => true) held tv v d p) : ∃ ps, IsVec W old v ps := by
  obtain ⟨a, len, cap, rfl⟩ := okWide_slice hv hw
  obtain ⟨fuel, hf⟩ := h
  obtain ⟨v', ps, e1, h1⟩ := open_vecC hv T hf
  simp [Value.cells] at e1
  subst e1
  exact ⟨ps, h1⟩

theorem wholeT_ : ∃ fs f0 f1, WholeT Tryz.prog 25 fs f0 f1 88 :=
  ⟨_, _, _, ⟨Tryz.underlying25, by kernel_rfl, rfl, rfl, rfl, rfl, by kernel_rfl, by kernel_rfl, Tryz.underlying4, Tryz.underlying23, Tryz.underlying88, by kernel_rfl⟩⟩

end Go.Proofs.YtamenhffplhddaaGreat

namespace Go.Proofs.YtamenhffplhddaaGreat
open Go.RowKit
set_option linter.unusedVariables false
set_option linter.unusedSimpArgs false

/-- Rows in a row of memory. -/
def GivenV (w : World) (g : Nat) (pss : List (List (Bool × List Nat))) : Prop :=
  ∀ j (h : j < pss.length), ∃ A c, w.cell? ⟨g, j, none⟩ = some (.slice A pss[j].length c) ∧ VecAt w old A c pss[j]
theorem GivenV.below {w w' : World} {g : Nat} {pss : List (List (Bool × List Nat))} (h : GivenV w g pss) (hb : Below w.heap.size w w') : GivenV w' g pss := fun j hj => by
  obtain ⟨A, c, h0, h1⟩ := h j hj
  exact ⟨A, c, keepC hb h0, h1.below hb⟩

def errVs (pss : List (List (Bool × List Nat))) : Int := if (pss.all fun ps => okV ps) = true then (if (pss.all fun ps => decide (ps.length = (pss.headD []).length)) = true then 0 else 70) else 8

set_option maxRecDepth 100000 in
set_option maxHeartbeats 1000000 in
theorem vchecked_any {w : World} {g n : Nat} {pss : List (List (Bool × List Nat))} (h : GivenV w g pss) (hn : n = pss.length) (h1 : 0 < pss.length) (hl : pss.length ≤ 1000) :
    Calls Tryz.prog 92 #[.slice (some ⟨g, 0, none⟩) n n] w fun e w' => e = .returned (.int .i64 (errVs pss)) ∧ Below w.heap.size w w' := by
  subst hn
  go_enter Tryz.func92, Tryz.ntmps92
  go_wp2
  go_loopw [10] (fun i wr => ∃ k : Nat, k ≤ pss.length ∧ i = .int .i64 k ∧ Below w.heap.size w wr ∧ Hid (∀ j (hj : j < pss.length), j < k → okV pss[j] = true)) (fun i _ => pss.length - (intOf i).toNat)
  case atStart => exact ⟨0, Nat.zero_le _, rfl, Below.refl _ _, fun j hj h => absurd h (by omega)⟩
  case round =>
    obtain ⟨k, hk, rfl, hbel, hz⟩ := hrel
    by_cases hlt : k < pss.length
    · obtain ⟨A, c, c0, hv⟩ := (h.below hbel) k hlt
      have hck := vcheck_any hv
      have hok : okV pss[k] = true ∨ okV pss[k] = false := by cases okV pss[k] <;> simp
      have Hall : Hid (okV pss[k] = true → ∀ j (hj : j < pss.length), j < k + 1 → okV pss[j] = true) := fun hx j hj hjk => by
        rcases Nat.lt_or_ge j k with h1 | h1
        · exact hz.out j hj h1
        · obtain rfl : j = k := by omega
          exact hx
      have Hnone : Hid (okV pss[k] = false → errVs pss = 8) := fun hx => by
        unfold errVs
        rw [if_neg]
        intro hall
        have := List.all_eq_true.1 hall pss[k] (List.getElem_mem hlt)
        rw [this] at hx
        cases hx
      clear hv hz
      generalize pss[k] = ps at *
      rcases hok with hok | hok
      · have e1 : errV ps = 0 := by simp [errV, hok]
        rw [e1] at hck
        have Hck := Lib.hid hck
        have Hok := Lib.hid hok
        clear hck hok e1
        go_wp2_with fail
        refine Hck.out.mono ?_
        rintro e w1 ⟨rfl, hb2⟩
        have hb3 := from_ hbel hb2
        go_wp2
        go_roundw
        case rel => exact ⟨k + 1, by omega, by go_num, hb3, Lib.hid (Hall.out Hok.out)⟩
        case measure => simp [intOf]; omega
      · have e1 : errV ps = 8 := by simp [errV, hok]
        rw [e1] at hck
        have Hck := Lib.hid hck
        have Hok := Lib.hid hok
        clear hck hok e1
        go_wp2_with fail
        refine Hck.out.mono ?_
        rintro e w1 ⟨rfl, hb2⟩
        have hb3 := from_ hbel hb2
        go_wp2
        go_ret
        rw [Hnone.out Hok.out]
        exact ⟨rfl, hb3⟩
    · obtain rfl : k = pss.length := by omega
      have hall : (pss.all fun ps => okV ps) = true := by
        rw [List.all_eq_true]
        intro p hp
        obtain ⟨j, hj, rfl⟩ := List.getElem_of_mem hp
        exact hz.out j hj hj
      have hh : pss.headD [] = pss[0] := by
        cases pss with
        | nil => simp at h1
        | cons p t => rfl
      have he : errVs pss = if (pss.all fun ps => decide (ps.length = pss[0].length)) = true then 0 else 70 := by
        unfold errVs
        rw [if_pos hall, hh]
      have He := Lib.hid he
      clear he hall hz hh
      have d1 : (0 : Int) ≤ 1 ∧ (1 : Int) ≤ (pss.length : Int) := by omega
      obtain ⟨m, hm⟩ : ∃ m, pss.length = m + 1 := ⟨pss.length - 1, by omega⟩
      obtain ⟨A0, c0, q0, hv0⟩ := (h.below hbel) 0 h1
      have hl0 := hv0.len
      clear hv0
      have hbel0 := hbel
      have hm2 : ((m + 1 : Nat) : Int) - 1 = (m : Int) := by omega
      generalize hL0 : pss[0].length = L0 at *
      have HL0 := Lib.hid hL0
      clear hL0
      have Hm := Lib.hid hm
      rw [hm] at hlt hk
      rcases Nat.eq_zero_or_pos m with hm0 | hm0
      · subst hm0
        have he : errVs pss = 0 := by
          rw [He.out, if_pos]
          rw [List.all_eq_true]
          intro p hp
          obtain ⟨j, hj, rfl⟩ := List.getElem_of_mem hp
          have h2 := Hm.out
          obtain rfl : j = 0 := by omega
          exact decide_eq_true HL0.out
        have He2 := Lib.hid he
        clear he
        go_wp2
        go_loopw [23] (fun i wr => i = .int .i64 0 ∧ Below w.heap.size w wr) (fun i _ => 0)
        case atStart => exact ⟨rfl, hbel0⟩
        case round =>
          clear hbel hbel0
          obtain ⟨rfl, hbel⟩ := hrel
          go_wp2
          go_ret
          rw [He2.out]
          exact ⟨rfl, hbel⟩
      · have hm3 : ¬ (m = 0) := by omega
        go_wp2
        go_loopw [23] (fun i wr => ∃ k : Nat, k ≤ m ∧ i = .int .i64 k ∧ Below w.heap.size w wr ∧ Hid (∀ j (hj : j < pss.length), j < k + 1 → pss[j].length = L0)) (fun i _ => m - (intOf i).toNat)
        case atStart =>
          refine ⟨0, Nat.zero_le _, rfl, hbel0, fun j hj h => ?_⟩
          obtain rfl : j = 0 := by omega
          exact HL0.out
        case round =>
          clear q0 hbel hbel0 A0 c0
          obtain ⟨k, hk, rfl, hbel, hz⟩ := hrel
          have hm := Hm.out
          obtain ⟨A0, c0, q0, hv0⟩ := (h.below hbel) 0 h1
          rw [HL0.out] at q0
          by_cases hlt : k < m
          · obtain ⟨A, c, c1, hv⟩ := (h.below hbel) (k + 1) (by omega)
            replace c1 : wr.cell? ⟨g, 1 + k, none⟩ = some (.slice A (pss[k + 1]'(by omega)).length c) := by rw [Nat.add_comm 1 k]; exact c1
            have hok : pss[k + 1].length = L0 ∨ pss[k + 1].length ≠ L0 := by omega
            have Hall : Hid (pss[k + 1].length = L0 → ∀ j (hj : j < pss.length), j < k + 1 + 1 → pss[j].length = L0) := fun hx j hj hjk => by
              rcases Nat.lt_or_ge j (k + 1) with h1 | h1
              · exact hz.out j hj h1
              · obtain rfl : j = k + 1 := by omega
                exact hx
            have Hnone : Hid (pss[k + 1].length ≠ L0 → errVs pss = 70) := fun hx => by
              rw [He.out, if_neg]
              intro hall
              have := List.all_eq_true.1 hall pss[k + 1] (List.getElem_mem (by omega))
              exact hx (of_decide_eq_true this)
            have hlv := hv.len
            clear hv hv0 hz hm
            generalize pss[k + 1].length = L1 at *
            rcases hok with hok | hok
            · subst hok
              have hself : ((L1 : Int) != (L1 : Int)) = false := bne_self_eq_false _
              go_wp2
              go_roundw
              case rel => exact ⟨k + 1, by omega, by go_num, hbel, Lib.hid (Hall.out rfl)⟩
              case measure => simp [intOf]; omega
            · have hself : ((L1 : Int) != (L0 : Int)) = true := bne_iff_ne.2 (by omega)
              have hself2 : ¬ (L1 = L0) := hok
              have Hok := Lib.hid hok
              go_wp2
              go_ret
              rw [Hnone.out Hok.out]
              exact ⟨rfl, hbel⟩
          · obtain rfl : k = m := by omega
            have he : errVs pss = 0 := by
              rw [He.out, if_pos]
              rw [List.all_eq_true]
              intro p hp
              obtain ⟨j, hj, rfl⟩ := List.getElem_of_mem hp
              exact decide_eq_true (hz.out j hj (by omega))
            have He2 := Lib.hid he
            clear he hz hv0
            go_wp2
            go_ret
            rw [He2.out]
            exact ⟨rfl, hbel⟩


theorem errVs_two (ps qs : List (Bool × List Nat)) : errVs [ps, qs] = if okV ps = true ∧ okV qs = true then (if ps.length = qs.length then 0 else 70) else 8 := by
  unfold errVs
  by_cases h1 : okV ps = true <;> by_cases h2 : okV qs = true <;> simp [h1, h2]
  by_cases h3 : ps.length = qs.length
  · simp [h3]
  · rw [if_neg h3, if_neg (fun h => h3 h.symm)]
theorem errVs_one (ps : List (Bool × List Nat)) : errVs [ps] = errV ps := by
  unfold errVs errV
  by_cases h1 : okV ps = true <;> simp [h1]


set_option maxRecDepth 100000 in
set_option maxHeartbeats 1000000 in
theorem vsum_n {w : World} {Z1 Z2 : Zone} {x y z : Int} {s t r : Bool} {l k m : List Nat} {A B : Option Addr} {c d : Nat} (h1 : Nm x s l) (h2 : Nm y t k) (h3 : Nm z r m) (hz : x + y = z) (hl : l.length ≤ 90000000000) (hl2 : k.length ≤ 90000000000) (u1 : U64s w Z1 A c l) (u2 : U64s w Z2 B d k) :
    Calls Tryz.prog 93 #[.agg #[.bool s, .slice A l.length c], .agg #[.bool t, .slice B k.length d]] w fun e w' => ∃ Av cv, e = .returned (.agg #[.bool r, .slice Av m.length cv]) ∧ U64s w' (new w.heap.size) Av cv m ∧ Below w.heap.size w w' := by
  obtain ⟨bA, bB, bR, hB0⟩ := boxes3 w (.bool s) (.slice A l.length c) (.bool t) (.slice B k.length d) (.bool false) (.slice none 0 0) 25
  have hop := wadd_n h1 h2 h3 hz hl hl2 (u1.below hB0) (u2.below hB0)
  have Hop := Lib.hid hop
  clear hop h1 h2 h3 hz hl hl2 u1 u2
  generalize l.length = ll at *
  generalize k.length = lk at *
  obtain ⟨a0, a1, _, _, _⟩ := bA
  obtain ⟨b0, b1, _, _, _⟩ := bB
  go_enter Tryz.func93, Tryz.ntmps93
  go_wp2_with fail
  refine Hop.out.mono ?_
  rintro e w1 ⟨Av, cv, rfl, hv, hc1⟩
  have bRw := bR.below hc1
  have hBw := from_ hB0 hc1
  have hP := bRw.put hBw (by omega) (.bool r) (.slice Av m.length cv)
  have hiv : IsU w1 _ (.slice Av m.length cv) m := ⟨Av, cv, rfl, hv⟩
  have hu2 := (hP.keep (by simp <;> omega) hiv).below ((Below.refl _ _).alloc (Nat.le_refl _) (.cells #[.bool r, .slice Av m.length cv] 25))
  have hbx := hP.box.alloc (.cells #[.bool r, .slice Av m.length cv] 25)
  have hbl := hP.bel.alloc hP.bel.size (.cells #[.bool r, .slice Av m.length cv] 25)
  have Hu := Lib.hid hu2
  have Hbx := Lib.hid hbx
  have Hbl := Lib.hid hbl
  have hz2 : w.heap.size + 2 < w1.heap.size := bRw.lt
  have hne : ¬ (w1.heap.size = w.heap.size + 1 + 1) := by omega
  have hne2 : ¬ (w.heap.size + 1 + 1 = w1.heap.size) := by omega
  obtain ⟨q0, q1, f0, f1, _⟩ := (show Box w1 (w.heap.size + 1 + 1) _ _ from bRw)
  clear hP hbx hbl hu2 hiv hv hBw bR hB0 hc1
  go_wp2
  refine bodyPost_ret (res_int rfl _ (w.heap.size + 2) rfl Hbx.out.c0 Hbx.out.c1) rfl ?_
  obtain ⟨A', c', e', h'⟩ := Hu.out
  injection e' with e1 e2 e3
  subst e1 e3
  exact ⟨_, _, rfl, h', Hbl.out⟩

set_option maxRecDepth 100000 in
set_option maxHeartbeats 1000000 in
theorem vprod_n {w : World} {Z1 Z2 : Zone} {x y z : Int} {s t r : Bool} {l k m : List Nat} {A B : Option Addr} {c d : Nat} (h1 : Nm x s l) (h2 : Nm y t k) (h3 : Nm z r m) (hz : x * y = z) (hl : l.length ≤ 90000000000) (hl2 : k.length ≤ 90000000000) (u1 : U64s w Z1 A c l) (u2 : U64s w Z2 B d k) :
    Calls Tryz.prog 94 #[.agg #[.bool s, .slice A l.length c], .agg #[.bool t, .slice B k.length d]] w fun e w' => ∃ Av cv, e = .returned (.agg #[.bool r, .slice Av m.length cv]) ∧ U64s w' (new w.heap.size) Av cv m ∧ Below w.heap.size w w' := by
  obtain ⟨bA, bB, bR, hB0⟩ := boxes3 w (.bool s) (.slice A l.length c) (.bool t) (.slice B k.length d) (.bool false) (.slice none 0 0) 25
  have hop := wmul_n h1 h2 h3 hz hl hl2 (u1.below hB0) (u2.below hB0)
  have Hop := Lib.hid hop
  clear hop h1 h2 h3 hz hl hl2 u1 u2
  generalize l.length = ll at *
  generalize k.length = lk at *
  obtain ⟨a0, a1, _, _, _⟩ := bA
  obtain ⟨b0, b1, _, _, _⟩ := bB
  go_enter Tryz.func94, Tryz.ntmps94
  go_wp2_with fail
  refine Hop.out.mono ?_
  rintro e w1 ⟨Av, cv, rfl, hv, hc1⟩
  have bRw := bR.below hc1
  have hBw := from_ hB0 hc1
  have hP := bRw.put hBw (by omega) (.bool r) (.slice Av m.length cv)
  have hiv : IsU w1 _ (.slice Av m.length cv) m := ⟨Av, cv, rfl, hv⟩
  have hu2 := (hP.keep (by simp <;> omega) hiv).below ((Below.refl _ _).alloc (Nat.le_refl _) (.cells #[.bool r, .slice Av m.length cv] 25))
  have hbx := hP.box.alloc (.cells #[.bool r, .slice Av m.length cv] 25)
  have hbl := hP.bel.alloc hP.bel.size (.cells #[.bool r, .slice Av m.length cv] 25)
  have Hu := Lib.hid hu2
  have Hbx := Lib.hid hbx
  have Hbl := Lib.hid hbl
  have hz2 : w.heap.size + 2 < w1.heap.size := bRw.lt
  have hne : ¬ (w1.heap.size = w.heap.size + 1 + 1) := by omega
  have hne2 : ¬ (w.heap.size + 1 + 1 = w1.heap.size) := by omega
  obtain ⟨q0, q1, f0, f1, _⟩ := (show Box w1 (w.heap.size + 1 + 1) _ _ from bRw)
  clear hP hbx hbl hu2 hiv hv hBw bR hB0 hc1
  go_wp2
  refine bodyPost_ret (res_int rfl _ (w.heap.size + 2) rfl Hbx.out.c0 Hbx.out.c1) rfl ?_
  obtain ⟨A', c', e', h'⟩ := Hu.out
  injection e' with e1 e2 e3
  subst e1 e3
  exact ⟨_, _, rfl, h', Hbl.out⟩

end Go.Proofs.YtamenhffplhddaaGreat

namespace Go.Proofs.YtamenhffplhddaaGreat
open Go.RowKit
set_option linter.unusedVariables false
set_option linter.unusedSimpArgs false

/-- The cells of a row in which the first k numbers stand. -/
def CellsQ (w : World) (g : Nat) (xs : List Value) (k : Nat) (qs : List (Bool × List Nat)) : Prop :=
  ∀ j (hj : j < qs.length), j < k → ∃ A c, xs[j * 2]? = some (.bool qs[j].1) ∧ xs[j * 2 + 1]? = some (.slice A qs[j].2.length c) ∧ U64s w (new (g + 1)) A c qs[j].2

theorem CellsQ.keep {w w' : World} {g : Nat} {xs : List Value} {k : Nat} {qs : List (Bool × List Nat)} (h : CellsQ w g xs k qs) (hk : ∀ b, b ≠ g → b < w.heap.size → w'.heap[b]? = w.heap[b]?) : CellsQ w' g xs k qs := fun j hj hjk => by
  obtain ⟨A, c, c0, c1, hu⟩ := h j hj hjk
  exact ⟨A, c, c0, c1, hu.keep fun b hb hl => hk b (by have : g + 1 ≤ b := hb; omega) hl⟩

theorem CellsQ.put {w w' : World} {g : Nat} {xs : List Value} {k : Nat} {qs : List (Bool × List Nat)} {A : Option Addr} {c : Nat} (h : CellsQ w g xs k qs) (hl : xs.length = qs.length * 2) (hk : k < qs.length)
    (hu : U64s w (new (g + 1)) A c (qs[k]).2) (hw : ∀ b, b ≠ g → b < w.heap.size → w'.heap[b]? = w.heap[b]?) :
    CellsQ w' g ((xs.set (k * 2) (.bool (qs[k]).1)).set (k * 2 + 1) (.slice A (qs[k]).2.length c)) (k + 1) qs := fun j hj hjk => by
  rcases Nat.lt_or_ge j k with h1 | h1
  · obtain ⟨A', c', c0, c1, hu'⟩ := h j hj h1
    refine ⟨A', c', ?_, ?_, hu'.keep fun b hb hl => hw b (by have : g + 1 ≤ b := hb; omega) hl⟩
    · rw [List.getElem?_set_ne (by omega), List.getElem?_set_ne (by omega)]
      exact c0
    · rw [List.getElem?_set_ne (by omega), List.getElem?_set_ne (by omega)]
      exact c1
  · obtain rfl : j = k := by omega
    refine ⟨A, c, ?_, ?_, hu.keep fun b hb hl => hw b (by have : g + 1 ≤ b := hb; omega) hl⟩
    · rw [List.getElem?_set_ne (by omega), List.getElem?_set_self (by omega)]
    · rw [List.getElem?_set_self (by rw [List.length_set]; omega)]

theorem CellsQ.fin {w : World} {g : Nat} {xs : List Value} {qs : List (Bool × List Nat)} {B : Nat} {e : TypeId} (h : CellsQ w g xs qs.length qs) (hown : w.ownsRow B e 2 (.slice (some ⟨g, 0, none⟩) qs.length qs.length) qs.length xs) (hg : g < w.heap.size) (hB : B ≤ g) (hm : qs.length ≤ 1000000000000) : VecAt w (new B) (some ⟨g, 0, none⟩) qs.length qs := by
  refine ⟨Nat.le_refl _, by omega, fun h0 => ⟨g, 0, rfl, hB, hg, fun _ j => by rw [Nat.zero_add]; exact hown.frozenAt j, fun j hj => ?_⟩⟩
  obtain ⟨A, c, c0, c1, hu⟩ := h j hj hj
  exact ⟨A, c, by rw [Nat.zero_add, hown.cellAt (j * 2) (by omega)]; exact c0, by rw [Nat.zero_add, hown.cellAt (j * 2 + 1) (by omega)]; exact c1, hu.mono (new_le (by omega))⟩

end Go.Proofs.YtamenhffplhddaaGreat

namespace Go.Proofs.YtamenhffplhddaaGreat
open Go.RowKit
set_option linter.unusedVariables false
set_option linter.unusedSimpArgs false

theorem stV {w : World} {g i b j k : Nat} {v x y : Value} (h : w.cell? ⟨g, i, none⟩ = some v) (hn : b ≠ g) : ((w.setCell ⟨b, j, none⟩ x).setCell ⟨b, k, none⟩ y).cell? ⟨g, i, none⟩ = some v := by
  rw [World.cell?_setCell_other _ _ _ _ (fun e => hn (by injection e)), World.cell?_setCell_other _ _ _ _ (fun e => hn (by injection e))]
  exact h

end Go.Proofs.YtamenhffplhddaaGreat

namespace Go.Proofs.YtamenhffplhddaaGreat
open Go.RowKit
set_option linter.unusedVariables false
set_option linter.unusedSimpArgs false

/-- Signs and words are the numbers'. -/
def NmV (xs : List Int) (ps : List (Bool × List Nat)) : Prop := ps = xs.map fun x => (decide (x < 0), limbs x.natAbs)
theorem NmV.mk' (xs : List Int) : NmV xs (xs.map fun x => (decide (x < 0), limbs x.natAbs)) := rfl
theorem NmV.len {xs : List Int} {ps : List (Bool × List Nat)} (h : NmV xs ps) : xs.length = ps.length := by subst h; simp
theorem NmV.at {xs : List Int} {ps : List (Bool × List Nat)} (h : NmV xs ps) (j : Nat) (h1 : j < xs.length) (h2 : j < ps.length) : Nm xs[j] ps[j].1 ps[j].2 := by
  subst h
  simp only [List.getElem_map]
  exact Nm.mk' _
theorem NmV.ok {ps : List (Bool × List Nat)} (h : okV ps = true) (hs : ∀ p ∈ ps, Small p.2) : NmV (ps.map fun p => zof p.1 p.2) ps := by
  unfold NmV
  unfold okV at h
  rw [Bool.and_eq_true] at h
  have h2 := List.all_eq_true.1 h.2
  rw [List.map_map]
  refine (List.map_id _).symm.trans (List.map_congr_left fun p hp => ?_)
  have h3 := Nm.ok (h2 p hp) (hs p hp)
  show p = (decide (zof p.1 p.2 < 0), limbs (zof p.1 p.2).natAbs)
  rw [← h3.1, ← h3.2]
theorem NmV.okV {xs : List Int} {ps : List (Bool × List Nat)} (h : NmV xs ps) (hl : ps.length ≤ 64) : okV ps = true := by
  unfold Go.Proofs.YtamenhffplhddaaGreat.okV
  rw [Bool.and_eq_true]
  refine ⟨decide_eq_true hl, List.all_eq_true.2 fun p hp => ?_⟩
  subst h
  obtain ⟨x, _, rfl⟩ := List.mem_map.1 hp
  exact IsZ.ok x
theorem NmV.of {xs : List Int} {ps : List (Bool × List Nat)} (h : xs.length = ps.length) (hj : ∀ j (h1 : j < xs.length) (h2 : j < ps.length), Nm xs[j] ps[j].1 ps[j].2) : NmV xs ps := by
  unfold NmV
  refine List.ext_getElem (by simp [h]) fun j h1 h2 => ?_
  rw [List.getElem_map]
  have h3 := hj j (by omega) h1
  rw [← h3.1, ← h3.2]

/-- The first k products, together. -/
def dotK (xs ys : List Int) (k : Nat) : Int := ((List.zipWith (· * ·) xs ys).take k).sum
def dotZ (xs ys : List Int) : Int := (List.zipWith (· * ·) xs ys).sum
theorem dotK_zero (xs ys : List Int) : dotK xs ys 0 = 0 := rfl
theorem dotK_succ {xs ys : List Int} {k : Nat} (h1 : k < xs.length) (h2 : k < ys.length) : dotK xs ys (k + 1) = dotK xs ys k + xs[k] * ys[k] := by
  unfold dotK
  rw [List.take_succ_eq_append_getElem (by simp; omega), List.sum_append]
  simp
theorem dotK_all {xs ys : List Int} {k : Nat} (h1 : xs.length ≤ k) : dotK xs ys k = dotZ xs ys := by
  unfold dotK dotZ
  rw [List.take_of_length_le (by rw [List.length_zipWith]; omega)]

theorem given_twoV {w : World} {A B : Option Addr} {c d : Nat} {ps qs : List (Bool × List Nat)} {ty : TypeId} {Z Y : Zone} (ha : VecAt w Z A c ps) (hb : VecAt w Y B d qs) : GivenV (w.alloc (.cells #[.slice A ps.length c, .slice B qs.length d] ty)) w.heap.size [ps, qs] := fun j hj => by
  have hal : Below w.heap.size w (w.alloc (.cells #[.slice A ps.length c, .slice B qs.length d] ty)) := (Below.refl _ _).alloc (Nat.le_refl _) _
  match j, hj with
  | 0, _ => exact ⟨A, c, cell_newest rfl rfl, (ha.below hal).mono (le_old _)⟩
  | 1, _ => exact ⟨B, d, cell_newest rfl rfl, (hb.below hal).mono (le_old _)⟩
theorem given_oneV {w : World} {A : Option Addr} {c : Nat} {ps : List (Bool × List Nat)} {ty : TypeId} {Z : Zone} (ha : VecAt w Z A c ps) : GivenV (w.alloc (.cells #[.slice A ps.length c] ty)) w.heap.size [ps] := fun j hj => by
  have hal : Below w.heap.size w (w.alloc (.cells #[.slice A ps.length c] ty)) := (Below.refl _ _).alloc (Nat.le_refl _) _
  match j, hj with
  | 0, _ => exact ⟨A, c, cell_newest rfl rfl, (ha.below hal).mono (le_old _)⟩

set_option maxRecDepth 100000 in
set_option maxHeartbeats 1000000 in
theorem vdot_err {w : World} {Z Y : Zone} {A B : Option Addr} {c d : Nat} {ps qs : List (Bool × List Nat)} {E : Int} (ha : VecAt w Z A c ps) (hb : VecAt w Y B d qs) (hE : errVs [ps, qs] = E) (hE2 : E = 8 ∨ E = 70) :
    Calls Tryz.prog 43 #[.slice A ps.length c, .slice B qs.length d] w fun e w' => e = .returned (.tuple #[.agg #[.bool false, .slice none 0 0], .int .i64 E]) ∧ Below w.heap.size w w' := by
  have hal : Below w.heap.size w (w.alloc (.cells #[.bool false, .slice none 0 0] 25)) := (Below.refl _ _).alloc (Nat.le_refl _) _
  have hal2 := hal.alloc hal.size (.cells #[.slice A ps.length c, .slice B qs.length d] 66)
  have hg := given_twoV (ty := 66) (ha.below hal) (hb.below hal)
  have hck := vchecked_any (n := 2) hg rfl (by simp) (by simp)
  rw [hE, show (w.alloc (.cells #[.bool false, .slice none 0 0] 25)).heap.size = w.heap.size + 1 by simp] at hck
  have bR := (Box.new w (.bool false) (.slice none 0 0) 25).alloc (.cells #[.slice A ps.length c, .slice B qs.length d] 66)
  have Hck := Lib.hid hck
  have Hal := Lib.hid hal2
  have hl1 := ha.len
  have hl2 := hb.len
  clear hck hg hal hal2 ha hb hE
  generalize ps.length = n1 at *
  generalize qs.length = n2 at *
  rcases hE2 with rfl | rfl
  all_goals
    go_enter Tryz.func43, Tryz.ntmps43
    go_wp2_with fail
    refine Hck.out.mono ?_
    rintro e w1 ⟨rfl, hc1⟩
    have bR1 := bR.below hc1
    have HB := Lib.hid (from_ Hal.out hc1)
    obtain ⟨q0, q1, f0, f1, _⟩ := id bR1
    go_wp2
    refine bodyPost_ret (res_int2 rfl _ w.heap.size rfl bR1.c0 bR1.c1) rfl ?_
    exact ⟨rfl, HB.out⟩

set_option maxRecDepth 100000 in
set_option maxHeartbeats 2000000 in
theorem vdot_n {w : World} {Z Y : Zone} {A B : Option Addr} {c d K : Nat} {ps qs : List (Bool × List Nat)} {xs ys : List Int} {r : Bool} {m : List Nat} (ha : VecAt w Z A c ps) (hb : VecAt w Y B d qs) (hx : NmV xs ps) (hy : NmV ys qs) (hlen : ps.length = qs.length) (hl : ps.length ≤ 64) (hK1 : ∀ p ∈ ps, p.2.length ≤ K) (hK2 : ∀ p ∈ qs, p.2.length ≤ K) (hK : K ≤ 20000000000) (h3 : Nm (dotZ xs ys) r m) :
    Calls Tryz.prog 43 #[.slice A ps.length c, .slice B qs.length d] w fun e w' => ∃ Av cv, e = .returned (.tuple #[.agg #[.bool r, .slice Av m.length cv], .int .i64 0]) ∧ U64s w' (new w.heap.size) Av cv m ∧ Below w.heap.size w w' := by
  have hal : Below w.heap.size w (w.alloc (.cells #[.bool false, .slice none 0 0] 25)) := (Below.refl _ _).alloc (Nat.le_refl _) _
  have hal2 := hal.alloc hal.size (.cells #[.slice A ps.length c, .slice B qs.length d] 66)
  have hg := given_twoV (ty := 66) (ha.below hal) (hb.below hal)
  have hck := vchecked_any (n := 2) hg rfl (by simp) (by simp)
  have hE : errVs [ps, qs] = 0 := by
    rw [errVs_two, if_pos ⟨hx.okV hl, hy.okV (by omega)⟩, if_pos hlen]
  rw [hE, show (w.alloc (.cells #[.bool false, .slice none 0 0] 25)).heap.size = w.heap.size + 1 by simp] at hck
  have bR := (Box.new w (.bool false) (.slice none 0 0) 25).alloc (.cells #[.slice A ps.length c, .slice B qs.length d] 66)
  have Hck := Lib.hid hck
  have Hal := Lib.hid hal2
  obtain ⟨n, hn⟩ : ∃ n, n = ps.length := ⟨_, rfl⟩
  have hn2 : qs.length = n := by omega
  have hxl : xs.length = n := by rw [hx.len]; exact hn.symm
  have hyl : ys.length = n := by rw [hy.len]; exact hn2
  rw [← hn] at Hck Hal bR hl ⊢
  rw [hn2] at Hck Hal bR ⊢
  have Hn := Lib.hid (show n = ps.length ∧ qs.length = n ∧ xs.length = n ∧ ys.length = n from ⟨hn, hn2, hxl, hyl⟩)
  clear hck hg hal hal2 hE hn hn2 hxl hyl hlen
  go_enter Tryz.func43, Tryz.ntmps43
  go_wp2_with fail
  refine Hck.out.mono ?_
  rintro e w1 ⟨rfl, hc1⟩
  have bR1 := bR.below hc1
  have hB1 := from_ Hal.out hc1
  clear bR Hal Hck hc1
  go_wp2
  go_loopw [16] (fun i wr => ∃ (k : Nat) (so : Bool) (lo : List Nat) (Ao : Option Addr) (co : Nat), k ≤ n ∧ i = .int .i64 (k : Int) ∧ Below w.heap.size w wr ∧ Box wr w.heap.size (.bool so) (.slice Ao lo.length co) ∧ U64s wr (new (w.heap.size + 1)) Ao co lo ∧ Hid (Nm (dotK xs ys k) so lo) ∧ lo.length ≤ 2 * K + k) (fun i _ => n - (intOf i).toNat)
  case atStart => exact ⟨0, false, [], none, 0, Nat.zero_le _, rfl, hB1, bR1, U64s.nil _ _, ⟨rfl, (limbs_eq_nil.2 rfl).symm⟩, by simp⟩
  case round =>
    clear bR1 hB1
    obtain ⟨k, so, lo, Ao, co, hk, rfl, hbel, bR, uo, hno, hlo⟩ := hrel
    by_cases hlt : k < n
    · obtain ⟨hn1, hn2, hn3, hn4⟩ := Hn.out
      have hkp : k < ps.length := by omega
      have hkq : k < qs.length := by omega
      have hkx : k < xs.length := by omega
      have hky : k < ys.length := by omega
      obtain ⟨b, o, B1, d1, rfl, hbb, c0, c1, hu⟩ := (ha.below hbel).at hkp
      obtain ⟨b2, o2, B2, d2, rfl, hbb2, c2, c3, hu2⟩ := (hb.below hbel).at hkq
      have na := hx.at k hkx hkp
      have nb := hy.at k hky hkq
      have hst := dotK_succ hkx hky
      have hp1 := hK1 ps[k] (List.getElem_mem hkp)
      have hq1 := hK2 qs[k] (List.getElem_mem hkq)
      generalize dotK xs ys k = z0 at *
      generalize xs[k] = x at *
      generalize ys[k] = y at *
      generalize ps[k].1 = s at *
      generalize ps[k].2 = l at *
      generalize qs[k].1 = t at *
      generalize qs[k].2 = l2 at *
      obtain ⟨sp, lp, np⟩ : ∃ s l, Nm (x * y) s l := ⟨_, _, Nm.mk' _⟩
      obtain ⟨sz, lz, nz⟩ : ∃ s l, Nm (z0 + x * y) s l := ⟨_, _, Nm.mk' _⟩
      have hlp : lp.length ≤ 2 * K := by
        have := lz_mul x y
        rw [← np.len, ← na.len, ← nb.len] at this
        omega
      have hlz : lz.length ≤ 2 * K + (k + 1) := by
        have := lz_add z0 (x * y)
        rw [← nz.len, ← np.len, ← hno.out.len] at this
        omega
      have bN := Box.new wr (.bool s) (.slice B1 l.length d1) 25
      have hal : Below wr.heap.size wr (wr.alloc (.cells #[.bool s, .slice B1 l.length d1] 25)) := (Below.refl _ _).alloc (Nat.le_refl _) _
      have hald : Below wr.heap.size wr (wr.alloc (.cells #[.bool s, .slice B1 l.length d1] 25)).drew := hal.drew
      have bRd := (bR.below hald)
      have c2a := keepC hal c2
      have c3a := keepC hal c3
      obtain ⟨r0, r1, rf0, rf1, _⟩ := bR.below hal
      obtain ⟨m0, m1, _, _, _⟩ := bN
      have s0 := (show (wr.alloc (.cells #[.bool s, .slice B1 l.length d1] 25)).drew.cell? ⟨w.heap.size, 0, none⟩ = _ from r0)
      have s1 := (show (wr.alloc (.cells #[.bool s, .slice B1 l.length d1] 25)).drew.cell? ⟨w.heap.size, 1, none⟩ = _ from r1)
      have s2 := (show (wr.alloc (.cells #[.bool s, .slice B1 l.length d1] 25)).drew.cell? ⟨wr.heap.size, 0, none⟩ = _ from m0)
      have s3 := (show (wr.alloc (.cells #[.bool s, .slice B1 l.length d1] 25)).drew.cell? ⟨wr.heap.size, 1, none⟩ = _ from m1)
      have s4 := (show (wr.alloc (.cells #[.bool s, .slice B1 l.length d1] 25)).drew.cell? ⟨b2, o2 + k * 2, none⟩ = _ from c2a)
      have s5 := (show (wr.alloc (.cells #[.bool s, .slice B1 l.length d1] 25)).drew.cell? ⟨b2, o2 + k * 2 + 1, none⟩ = _ from c3a)
      have C0 := Lib.hid (vprod_n na nb np rfl (by omega) (by omega) (hu.below hald) (hu2.below hald))
      have C1 := Lib.hid (fun (w1 : World) (A0 : Option Addr) (c0 : Nat) (Z0 : Zone) (h : Below wr.heap.size wr w1) (h' : U64s w1 Z0 A0 c0 lp) => vsum_n hno.out np nz rfl (by omega) (by omega) (uo.below h) h')
      have Hald := Lib.hid hald
      have Hbel := Lib.hid hbel
      have hnz : Nm (dotK xs ys (k + 1)) sz lz := by rw [hst]; exact nz
      have Hnz := Lib.hid hnz
      have hw1 : w.heap.size < wr.heap.size := bR.lt
      have hw2 : b2 < wr.heap.size := hbb2
      clear na nb np nz hst hno hu hu2 hal hald hbel hx hy ha hb hnz h3 hK1 hK2 r0 r1 m0 m1 c2a c3a c2 c3 hkp hkq hkx hky hn1 hn2 hn3 hn4 uo
      go_wp2
      go_region_with (first
        | (go_at_call 94; refine C0.out.mono ?_; rintro e w2 ⟨A0, c0, rfl, u0, hc0⟩; have p0 := keepC hc0 s0; have p1 := keepC hc0 s1; have p2 := keepC hc0 s2; have p3 := keepC hc0 s3; have p4 := keepC hc0 s4; have p5 := keepC hc0 s5)
        | (go_at_call 93; refine (C1.out _ _ _ _ (from_ Hald.out hc0) u0).mono ?_; rintro e w3 ⟨A1, c1, rfl, u1, hc1⟩; have q0 := keepC hc1 p0; have q1 := keepC hc1 p1; have q2 := keepC hc1 p2; have q3 := keepC hc1 p3; have q4 := keepC hc1 p4; have q5 := keepC hc1 p5; obtain ⟨_, _, f0, f1, _⟩ := (bRd.below hc0).below hc1))
      all_goals
        have hb3 := from_ (from_ Hald.out hc0) hc1
        have hB3 := from_ Hbel.out hb3
        have hP := ((bRd.below hc0).below hc1).put hB3 (by omega) (.bool sz) (.slice A1 lz.length c1)
        have hs0 := hc0.size
        have hs1 := Hald.out.size
        have hu3 : U64s ((w3.setCell ⟨w.heap.size, 0, none⟩ (.bool sz)).setCell ⟨w.heap.size, 1, none⟩ (.slice A1 lz.length c1)) (new (w.heap.size + 1)) A1 c1 lz := (u1.mono (new_le (show w.heap.size + 1 ≤ w2.heap.size by omega))).keep fun b hb _ => by
          have hb' : w.heap.size + 1 ≤ b := hb
          rw [Below.heap_setCell _ _ _ _ (show b ≠ w.heap.size by omega), Below.heap_setCell _ _ _ _ (show b ≠ w.heap.size by omega)]
        have HU := Lib.hid hu3
        have HP := Lib.hid hP
        clear hP hu3 u1 u0 hB3 hb3
        go_wp2
        go_roundw
        case rel => exact ⟨k + 1, sz, lz, A1, c1, by omega, by go_num, HP.out.bel, HP.out.box, HU.out, Hnz, by omega⟩
        case measure => simp [intOf]; omega
    · obtain rfl : n = k := by omega
      have hz := hno.out
      rw [dotK_all (by have := Hn.out.2.2.1; omega)] at hz
      obtain ⟨rfl, rfl⟩ : so = r ∧ lo = m := ⟨hz.1.trans h3.1.symm, hz.2.trans h3.2.symm⟩
      have HU := Lib.hid (uo.mono (Y := new w.heap.size) (new_le (by omega)))
      have HR := Lib.hid bR
      clear hz hno uo hx hy ha hb h3
      go_wp2
      refine bodyPost_ret (res_int2 rfl _ w.heap.size rfl HR.out.c0 HR.out.c1) rfl ?_
      exact ⟨_, _, rfl, HU.out, hbel⟩

end Go.Proofs.YtamenhffplhddaaGreat

namespace Go.Proofs.YtamenhffplhddaaGreat
open Go.RowKit
set_option linter.unusedVariables false
set_option linter.unusedSimpArgs false

theorem cell1 (w : World) (a : Value) (t : TypeId) : (w.alloc (.cells #[a] t)).cell? ⟨w.heap.size, 0, none⟩ = some a := cell_newest rfl rfl

/-- The error of Mix. -/
def errM (sm : Bool) (lm : List Nat) (sn : Bool) (ln : List Nat) (ps qs : List (Bool × List Nat)) : Int := if okI sm lm = true ∧ okI sn ln = true then errVs [ps, qs] else 8

end Go.Proofs.YtamenhffplhddaaGreat

namespace Go.Proofs.YtamenhffplhddaaGreat
open Go.RowKit
set_option linter.unusedVariables false
set_option linter.unusedSimpArgs false

theorem IsVs.vec {w : World} {v : Value} {zs : List Int} {ps : List (Bool × List Nat)} (h : IsVs w v zs) (hp : NmV zs ps) : ∃ A c, v = .slice A ps.length c ∧ VecAt w old A c ps := by
  obtain ⟨A, c, rfl, h1, h2, h3⟩ := h
  have hl := hp.len
  refine ⟨A, c, by rw [hl], by omega, h2, fun h0 => ?_⟩
  obtain ⟨g, rfl, hg, hc⟩ := h3 (by omega)
  refine ⟨g, 0, rfl, trivial, hg, fun h => h.elim, fun j hj => ?_⟩
  obtain ⟨u, c0, c1, hu⟩ := hc j (by omega)
  obtain ⟨B, d, rfl, hu⟩ := hu
  obtain ⟨e1, e2⟩ := hp.at j (by omega) hj
  refine ⟨B, d, ?_, ?_, ?_⟩
  · rw [Nat.zero_add, e1]; exact c0
  · rw [Nat.zero_add, e2]; exact c1
  · rw [e2]; exact hu

def greatV (ps : List (Bool × List Nat)) (M K : Nat) : Bool := decide (M < ps.length) || ps.any fun p => decide (K < p.2.length)

theorem vec_ext {ps qs : List (Bool × List Nat)} (h : ps.length = qs.length) (hj : ∀ j (h1 : j < ps.length) (h2 : j < qs.length), ps[j].1 = qs[j].1 ∧ ps[j].2 = qs[j].2) : ps = qs :=
  List.ext_getElem h fun j h1 h2 => Prod.ext (hj j h1 h2).1 (hj j h1 h2).2

set_option maxRecDepth 100000 in
set_option maxHeartbeats 2000000 in
theorem same7_all {w : World} {Z Y : Zone} {A B : Option Addr} {ca cb : Nat} {ps qs : List (Bool × List Nat)} (ha : VecAt w Z A ca ps) (hb : VecAt w Y B cb qs) :
    Calls Tryz.prog 78 #[.slice A ps.length ca, .slice B qs.length cb] w fun e w' => e = .returned (.bool (decide (ps = qs))) ∧ Below w.heap.size w w' := by
  by_cases hl : ps.length = qs.length
  · have hself : ((ps.length : Int) != (ps.length : Int)) = false := bne_self_eq_false _
    have hla := ha.len
    have Hl := Lib.hid hl
    rw [← hl]
    clear hl
    go_enter Tryz.func78, Tryz.ntmps78
    go_wp2
    go_loopw [5] (fun i wr => ∃ k : Nat, k ≤ ps.length ∧ i = .int .i64 (k : Int) ∧ Below w.heap.size w wr ∧ Hid (∀ j (h1 : j < ps.length) (h2 : j < qs.length), j < k → ps[j].1 = qs[j].1 ∧ ps[j].2 = qs[j].2)) (fun i _ => ps.length - (intOf i).toNat)
    case atStart => exact ⟨0, Nat.zero_le _, rfl, Below.refl _ _, fun j h1 h2 h => absurd h (by omega)⟩
    case round =>
      obtain ⟨k, hk, rfl, hbel, hz⟩ := hrel
      by_cases hlt : k < ps.length
      · have hltq : k < qs.length := by have := Hl.out; omega
        obtain ⟨b1, o1, B1, d1, rfl, hbb1, p0, p1, hu1⟩ := (ha.below hbel).at hlt
        obtain ⟨b2, o2, B2, d2, rfl, hbb2, r0, r1, hu2⟩ := (hb.below hbel).at hltq
        have i1 : IsI wr.drew Z (.agg #[.bool ps[k].1, .slice B1 ps[k].2.length d1]) ps[k].1 ps[k].2 := IsI.below ⟨_, rfl, B1, d1, rfl, hu1⟩ ((Below.refl _ wr).drew)
        have i2 : IsI wr.drew Y (.agg #[.bool qs[k].1, .slice B2 qs[k].2.length d2]) qs[k].1 qs[k].2 := IsI.below ⟨_, rfl, B2, d2, rfl, hu2⟩ ((Below.refl _ wr).drew)
        have hsm := same5_any i1 i2
        have hcase : decide (ps[k].1 = qs[k].1 ∧ ps[k].2 = qs[k].2) = true ∨ decide (ps[k].1 = qs[k].1 ∧ ps[k].2 = qs[k].2) = false := by cases decide (ps[k].1 = qs[k].1 ∧ ps[k].2 = qs[k].2) <;> simp
        have Hall : Hid (decide (ps[k].1 = qs[k].1 ∧ ps[k].2 = qs[k].2) = true → ∀ j (h1 : j < ps.length) (h2 : j < qs.length), j < k + 1 → ps[j].1 = qs[j].1 ∧ ps[j].2 = qs[j].2) := fun hx j h1 h2 hjk => by
          rcases Nat.lt_or_ge j k with h3 | h3
          · exact hz.out j h1 h2 h3
          · obtain rfl : j = k := by omega
            exact of_decide_eq_true hx
        have Hnone : Hid (decide (ps[k].1 = qs[k].1 ∧ ps[k].2 = qs[k].2) = false → decide (ps = qs) = false) := fun hx => by
          refine decide_eq_false fun h => ?_
          subst h
          simp at hx
        have hbd := hbel.drew
        clear i1 i2 hu1 hu2 hz
        generalize decide (ps[k].1 = qs[k].1 ∧ ps[k].2 = qs[k].2) = R at *
        generalize ps[k].1 = s at *
        generalize ps[k].2.length = l at *
        generalize qs[k].1 = t at *
        generalize qs[k].2.length = l2 at *
        rcases hcase with rfl | rfl
        · have Hsm := Lib.hid hsm
          clear hsm
          go_wp2
          go_still_tail 8, (by kernel_rfl)
          change wpList _ _ _ _ _ wr.drew
          go_wp2_with fail
          refine Hsm.out.mono ?_
          rintro e w1 ⟨rfl, hb1⟩
          have hb2 := from_ hbd hb1
          go_wp2
          go_roundw
          case rel => exact ⟨k + 1, by omega, by go_num, hb2, Lib.hid (Hall.out (by trivial))⟩
          case measure => simp [intOf]; omega
        · have Hsm := Lib.hid hsm
          clear hsm
          go_wp2
          go_still_tail 8, (by kernel_rfl)
          change wpList _ _ _ _ _ wr.drew
          go_wp2_with fail
          refine Hsm.out.mono ?_
          rintro e w1 ⟨rfl, hb1⟩
          have hb2 := from_ hbd hb1
          go_wp2
          go_ret
          rw [Hnone.out (by trivial)]
          exact ⟨rfl, hb2⟩
      · obtain rfl : k = ps.length := by omega
        have he : decide (ps = qs) = true := decide_eq_true (vec_ext Hl.out fun j h1 h2 => hz.out j h1 h2 h1)
        have He := Lib.hid he
        clear he hz
        go_wp2
        go_ret
        rw [He.out]
        exact ⟨rfl, hbel⟩
  · have hd : ((ps.length : Int) != (qs.length : Int)) = true := bne_iff_ne.2 (by omega)
    have hd2 : decide (ps = qs) = false := decide_eq_false fun h => hl (by rw [h])
    have hla := ha.len
    have hlb := hb.len
    have hl2 := hl
    rw [hd2]
    clear hd2 ha hb
    generalize ps.length = L at *
    generalize qs.length = M at *
    go_enter Tryz.func78, Tryz.ntmps78
    go_wp2
    go_ret
    exact ⟨rfl, Below.refl _ _⟩

end Go.Proofs.YtamenhffplhddaaGreat

namespace Go.Proofs.YtamenhffplhddaaGreat
open Go.RowKit
set_option linter.unusedVariables false
set_option linter.unusedSimpArgs false

theorem ints3 (w : World) (x y z : Int) (t : TypeId) (hx : -9223372036854775808 ≤ x ∧ x ≤ 9223372036854775807) (hy : -9223372036854775808 ≤ y ∧ y ≤ 9223372036854775807) (hz : -9223372036854775808 ≤ z ∧ z ≤ 9223372036854775807) :
    IsInts (w.alloc (.cells #[.int .i64 x, .int .i64 y, .int .i64 z] t)) old (.slice (some ⟨w.heap.size, 0, none⟩) 3 3) [x, y, z] := by
  refine ⟨_, 3, rfl, by simp, by omega, fun u hu => ?_, fun _ => ⟨w.heap.size, 0, rfl, by simp, fun j hj => ?_⟩⟩
  · simp at hu
    rcases hu with rfl | rfl | rfl
    · exact hx
    · exact hy
    · exact hz
  · match j, hj with
    | 0, _ => exact cell_newest rfl rfl
    | 1, _ => exact cell_newest rfl rfl
    | 2, _ => exact cell_newest rfl rfl
theorem ints2 (w : World) (x y : Int) (t : TypeId) (hx : -9223372036854775808 ≤ x ∧ x ≤ 9223372036854775807) (hy : -9223372036854775808 ≤ y ∧ y ≤ 9223372036854775807) :
    IsInts (w.alloc (.cells #[.int .i64 x, .int .i64 y] t)) old (.slice (some ⟨w.heap.size, 0, none⟩) 2 2) [x, y] := by
  refine ⟨_, 2, rfl, by simp, by omega, fun u hu => ?_, fun _ => ⟨w.heap.size, 0, rfl, by simp, fun j hj => ?_⟩⟩
  · simp at hu
    rcases hu with rfl | rfl
    · exact hx
    · exact hy
  · match j, hj with
    | 0, _ => exact cell_newest rfl rfl
    | 1, _ => exact cell_newest rfl rfl

theorem vof_n {w : World} {g n : Nat} {zs : List Int} {ps : List (Bool × List Nat)} (h : IsInts w old (.slice (some ⟨g, 0, none⟩) n n) zs) (hp : NmV zs ps) (hl : zs.length ≤ 1000) :
    Calls Tryz.prog 79 #[.slice (some ⟨g, 0, none⟩) n n] w fun e w' => ∃ A c, e = .returned (.slice A ps.length c) ∧ VecAt w' old A c ps ∧ Below w.heap.size w w' := by
  refine (vof_any h hl).mono ?_
  rintro e w' ⟨v, rfl, hv, hb⟩
  obtain ⟨A, c, rfl, h1⟩ := hv.vec hp
  exact ⟨A, c, rfl, h1, hb⟩
theorem wof_n {w : World} {n : Int} {s : Bool} {l : List Nat} (h : Nm n s l) (hn : -9223372036854775808 ≤ n ∧ n ≤ 9223372036854775807) :
    Calls Tryz.prog 19 #[.int .i64 n] w fun e w' => ∃ A c, e = .returned (.agg #[.bool s, .slice A l.length c]) ∧ U64s w' (new w.heap.size) A c l ∧ Below w.heap.size w w' := by
  refine (wof_any hn).mono ?_
  rintro e w' ⟨v, rfl, hv, hb⟩
  obtain ⟨A, c, rfl, h1⟩ := h.of hv
  exact ⟨A, c, rfl, h1, hb⟩
theorem same7_n {w : World} {Z Y : Zone} {A B : Option Addr} {ca cb : Nat} {ps : List (Bool × List Nat)} (ha : VecAt w Z A ca ps) (hb : VecAt w Y B cb ps) :
    Calls Tryz.prog 78 #[.slice A ps.length ca, .slice B ps.length cb] w fun e w' => e = .returned (.bool true) ∧ Below w.heap.size w w' :=
  (same7_all ha hb).mono fun e w' h => by simpa using h

theorem nmV_small {zs : List Int} {ps : List (Bool × List Nat)} (h : NmV zs ps) (hz : ∀ z ∈ zs, z.natAbs < 18446744073709551616) : ∀ p ∈ ps, p.2.length ≤ 1 := fun p hp => by
  subst h
  obtain ⟨z, hz1, rfl⟩ := List.mem_map.1 hp
  exact len_limbs_le (by simpa using hz z hz1)

end Go.Proofs.YtamenhffplhddaaGreat
