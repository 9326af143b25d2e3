/-
  append to a row of one's own: the row lies where it lay, or in new memory; rows of whole numbers that grow so. No conditions.
  Intervals: an end's value, what an end may be (program and document). No conditions.
  Intervals: what one may be (program and document). No conditions but bounds on lengths.
  Intervals: ends as places. No conditions.
  Intervals: places as ends in new memory; the lesser and the greater of two places. No conditions but bounds on lengths.
  Intervals in a row of memory: itv.checked; the numbers that good ends stand for. No conditions but bounds on lengths.
  Intervals: two of them in boxes; itv.In. No conditions but bounds on lengths.
  Intervals, the document's: Inside of good ends. No conditions but bounds on lengths.
  Intervals: the document's two and In; itv.In where one may not be. No conditions but bounds on lengths.
  Intervals: whether two are the same (document). No conditions.
  Intervals: whether two are the same (program). No conditions.
  Intervals, the document's: Within. No conditions but bounds on lengths.
  Intervals, the document's: Has. No conditions but bounds on lengths.
  Intervals: itv.Has. No conditions but bounds on lengths.
  Intervals: itv.Has where the interval or the number may not be. No conditions but bounds on lengths.
  Intervals, the document's: Top. No conditions.
  Plain law of intervals: extended numbers (B and -B beyond all), products, quotients, shifts of them, and where they lie. No conditions.
  Intervals by their numbers: signs and words of extended numbers; what the operations answer at any words. No conditions.
  Intervals, the program's: Top, Of, Point, turned. No conditions but bounds on lengths.
-/
import Derived.Deep.RegionLaw
import Derived.Deep.RegionHeld3
import Derived.Test.YtennphechbngcaaMVecC
import Derived.Test.YtennphechbngcaaMFrameV
import Derived.Test.YtennphechbngcaaMWhU
import Derived.Test.YtennphechbngcaaMW5G
import Derived.Test.YtennphechbngcaaMBoxL
namespace Go.Proofs.Ytennphechbngcaa
open Go.RowKit
set_option linter.unusedVariables false
set_option linter.unusedSimpArgs false

/-- The row's block stays, or is a new one. -/
def Fresh (w : World) (v v' : Value) : Prop := v'.ownBlock = v.ownBlock ∨ ∀ k, v'.ownBlock = some k → w.heap.size ≤ k

theorem append_fresh {P : Program} (w : World) (base : Nat) (t ty e : TypeId) (i : TypeInfo) (z : Value) (size bytes : Nat) (ht : P.underlying t = some (.slice e)) (hi : P.info? e = some i) (hz : i.zero = some z)
    (hsize : i.size = size) (hby : i.bytes = bytes) (hzs : z.cells.size = size) (hsz : 0 < size)
    (v : Value) (n : Nat) (xs : List Value) (hown : w.ownsRow base e size v n xs)
    (a : Addr) (m c : Nat) (news : List Value) (hl : news.length = m * size) (hnews : ∀ j u, news[j]? = some u → w.cell? (a.add j) = some u) (h1 : ∀ u ∈ news, u.oneCell' = true)
    (h63 : n + m ≤ maxLen) (hbytes : (n + m) * bytes ≤ 140737488355328) (hbase : base ≤ w.heap.size) :
    ∃ v' w', (Builtin.append_ #[t, t] ty #[v, .slice (some a) m c]).run P w = .ok v' w' ∧ w'.ownsRow base e size v' (n + m) (xs ++ news) ∧ w.grownBy w' v.ownBlock ∧ Fresh w v v' := by
  obtain ⟨v', w', hr, h2, h3, _⟩ := run_append_own (P := P) w base t ty e i z size bytes ht hi hz hsize hby hzs hsz v n xs hown a m c news hl hnews h1 h63 hbytes hbase
  refine ⟨v', w', hr, h2, h3, ?_⟩
  have hcase := hown.2
  rcases hcase with ⟨rfl, rfl⟩ | ⟨g, cap, cur, rfl, hbg, hg, hnc, hcm, hcs, htake⟩
  · right
    have hx : xs = [] := List.eq_nil_of_length_eq_zero (by simpa using hown.1)
    subst hx
    obtain ⟨v2, w2, hr2, h4, _, _⟩ := run_append_own (P := P) w w.heap.size t ty e i z size bytes ht hi hz hsize hby hzs hsz (.slice none 0 0) 0 [] (World.ownsRow_nil _ _ _ _) a m c news hl hnews h1 h63 hbytes (Nat.le_refl _)
    rw [hr] at hr2
    injection hr2 with e1 e2
    subst e1 e2
    exact fun k hk => (h4.lt k hk).1
  · by_cases hroom : n + m ≤ cap
    · left
      have hfit : n * i.size + news.length ≤ cur.size := by rw [hl, hcs, hsize, ← Nat.add_mul]; exact Nat.mul_le_mul_right _ hroom
      have hr2 := run_append_room (P := P) w t ty e i ht hi g n cap cur hg a m c news (by rw [hsize]; exact hl) hnews h1 hroom hfit
      rw [hr] at hr2
      injection hr2 with e1 e2
      rw [e1]
      rfl
    · right
      have holds : ∀ j u, xs[j]? = some u → w.cell? ((⟨g, 0, none⟩ : Addr).add j) = some u := hown.cells (g := g) rfl
      have hr2 := run_append_grow (P := P) w t ty e i z ht hi hz ⟨g, 0, none⟩ n cap xs (by rw [hsize]; exact hown.1) holds a m c news (by rw [hsize]; exact hl) hnews (by omega) (by simp only [maxLen] at h63; omega) (growslice_fits (by omega) (by rw [hby]; exact hbytes))
      rw [hr] at hr2
      injection hr2 with e1 e2
      rw [e1]
      intro k hk
      simp [Value.ownBlock] at hk
      omega

/-- append of one thing to a row of the call's own. -/
theorem wpList_appF {P : Program} (w : World) {ops : Array Oper} {rest : List Oper} {o : Oper} {a : Act} {Q : Exit → Act → World → Prop} (hgd : o.guard = none) (s x : Operand) (t : TypeId)
    (ho : o.op = .call { callee := .builtin .append, args := #[s, x], argTypes := #[t, t] })
    (base : Nat) (e : TypeId) (i : TypeInfo) (z : Value) (size bytes : Nat) (ht : P.underlying t = some (.slice e)) (hi : P.info? e = some i) (hz : i.zero = some z) (hsize : i.size = size) (hby : i.bytes = bytes) (hzs : z.cells.size = size) (hsz : 0 < size) (hbb : bytes ≤ 1000)
    (v : Value) (n : Nat) (xs : List Value) (hs : a.eval s = v) (hown : w.ownsRow base e size v n xs)
    (g : Nat) (news : List Value) (hx : a.eval x = .slice (some ⟨g, 0, none⟩) 1 1) (hl : news.length = size) (hc : ∀ j u, news[j]? = some u → w.cell? ⟨g, j, none⟩ = some u) (h1 : ∀ u ∈ news, u.oneCell' = true)
    (hb : n + 1 ≤ 1000000000) (hbase : base ≤ w.heap.size)
    (h : ∀ v' w', w'.ownsRow base e size v' (n + 1) (xs ++ news) → w.grownBy w' v.ownBlock → Fresh w v v' → wpList P ops Q rest (a.put o.dst v') w') : wpList P ops Q (o :: rest) a w := by
  refine wpList_plain hgd fun _ hK => ?_
  have hbt : (n + 1) * bytes ≤ 140737488355328 := Nat.le_trans (Nat.mul_le_mul hb hbb) (by omega)
  obtain ⟨v', w', hrun, r1, r2, r3⟩ := append_fresh (P := P) w base t o.type e i z size bytes ht hi hz hsize hby hzs hsz v n xs hown ⟨g, 0, none⟩ 1 1 news (by omega) (fun j u hu => by rw [Addr.add_lit, Nat.zero_add]; exact hc j u hu) h1 (by simp only [maxLen]; omega) hbt hbase
  unfold Oper.wp
  simp [execOp, ho, resolve, invoke, builtin, hs, hx, hrun, Result.andThen]
  exact hK _ _ (h v' w' r1 r2 r3)

/-- From block B on, but not in the row's own block. -/
def newX (B : Nat) (v : Value) : Zone := ⟨fun b => B ≤ b ∧ v.ownBlock ≠ some b, True⟩
theorem newX_le (B : Nat) (v : Value) : (newX B v).le (new B) := ⟨fun _ h => h.1, fun h => h⟩
theorem U64s.toX {w : World} {B K : Nat} {v : Value} {A : Option Addr} {c : Nat} {l : List Nat} (h : U64s w (new K) A c l) (hv : ∀ k, v.ownBlock = some k → k < K) (hB : B ≤ K) : U64s w (newX B v) A c l :=
  h.mono ⟨fun b hb => ⟨Nat.le_trans hB hb, fun e => by have h1 := hv b e; have h2 : K ≤ b := hb; omega⟩, fun h => h⟩
theorem U64s.grow {w w' : World} {B : Nat} {v v' : Value} {A : Option Addr} {c : Nat} {l : List Nat} (h : U64s w (newX B v) A c l) (hg : w.grownBy w' v.ownBlock) (hf : Fresh w v v') : U64s w' (newX B v') A c l := by
  have h1 := h.keep (w' := w') fun b hb hl => hg.block b hl (fun e => hb.2 e.symm)
  refine ⟨h1.small, h1.cap, h1.max, h1.nul, fun h0 => ?_⟩
  obtain ⟨b, o, e, hb, hfz, hc⟩ := h1.row h0
  obtain ⟨b2, o2, e2, hb2, _, hc2⟩ := h.row h0
  rw [e] at e2
  injection e2 with e2
  injection e2 with e3 e4
  subst e3 e4
  have hlt := lt_of_cell (hc2 0 _ (List.getElem?_eq_getElem h0))
  refine ⟨b, o, e, ⟨hb.1, fun e5 => ?_⟩, hfz, hc⟩
  rcases hf with h3 | h3
  · exact hb.2 (h3.symm.trans e5)
  · have h4 := h3 b e5
    have h5 : b < w.heap.size := hlt
    omega

/-- The row's cells in which the first k numbers stand. -/
def CellsF (w : World) (B : Nat) (v : Value) (xs : List Value) (k : Nat) (qs : List (Bool × List Nat)) : Prop :=
  ∀ j (hj : j < qs.length), j < k → ∃ A c, xs[j * 2]? = some (.bool qs[j].1) ∧ xs[j * 2 + 1]? = some (.slice A qs[j].2.length c) ∧ U64s w (newX B v) A c qs[j].2
theorem CellsF.zero (w : World) (B : Nat) (v : Value) (xs : List Value) (qs : List (Bool × List Nat)) : CellsF w B v xs 0 qs := fun j _ h => absurd h (by omega)
theorem CellsF.below {w w' : World} {B : Nat} {v : Value} {xs : List Value} {k : Nat} {qs : List (Bool × List Nat)} (h : CellsF w B v xs k qs) (hb : Below w.heap.size w w') : CellsF w' B v xs k qs := fun j hj hjk => by
  obtain ⟨A, c, c0, c1, hu⟩ := h j hj hjk
  exact ⟨A, c, c0, c1, hu.below hb⟩
theorem CellsF.grow {w w' : World} {B : Nat} {v v' : Value} {xs : List Value} {k : Nat} {qs : List (Bool × List Nat)} {A : Option Addr} {c : Nat} (h : CellsF w B v xs k qs) (hl : xs.length = k * 2) (hg : w.grownBy w' v.ownBlock) (hf : Fresh w v v') (hk : k < qs.length)
    (hu : U64s w (newX B v) A c (qs[k]).2) : CellsF w' B v' (xs ++ [.bool (qs[k]).1, .slice A (qs[k]).2.length c]) (k + 1) qs := fun j hj hjk => by
  rcases Nat.lt_or_ge j k with h1 | h1
  · obtain ⟨A', c', c0, c1, hu'⟩ := h j hj h1
    refine ⟨A', c', ?_, ?_, hu'.grow hg hf⟩
    · rw [List.getElem?_append_left (by omega)]; exact c0
    · rw [List.getElem?_append_left (by omega)]; exact c1
  · obtain rfl : j = k := by omega
    refine ⟨A, c, ?_, ?_, hu.grow hg hf⟩
    · rw [List.getElem?_append_right (by omega), hl, Nat.sub_self]; rfl
    · rw [List.getElem?_append_right (by omega), hl, show j * 2 + 1 - j * 2 = 1 by omega]; rfl
theorem CellsF.fin {w : World} {B : Nat} {v : Value} {xs : List Value} {qs : List (Bool × List Nat)} {e : TypeId} (h : CellsF w B v xs qs.length qs) (hown : w.ownsRow B e 2 v qs.length xs) : IsVec w (new B) v qs := by
  obtain ⟨A2, c2, e2⟩ := own_shape hown
  have hcase := hown.2
  rcases hcase with ⟨e1, h0⟩ | ⟨g, cap, cur, e1, hB, hh, hcap, hm, _⟩
  · have hq : qs = [] := List.eq_nil_of_length_eq_zero h0
    subst hq
    exact ⟨none, 0, e1, VecAt.nil _ _⟩
  · subst e1
    refine ⟨some ⟨g, 0, none⟩, cap, rfl, hcap, by simpa [maxLen] using hm, fun h0 => ⟨g, 0, rfl, hB, (hown.lt g rfl).2, fun _ j => by rw [Nat.zero_add]; exact hown.frozenAt j, fun j hj => ?_⟩⟩
    obtain ⟨A, c, c0, c1, hu⟩ := h j hj hj
    exact ⟨A, c, by rw [Nat.zero_add, hown.cellAt (j * 2) (by omega)]; exact c0, by rw [Nat.zero_add, hown.cellAt (j * 2 + 1) (by omega)]; exact c1, hu.mono (newX_le _ _)⟩
end Go.Proofs.Ytennphechbngcaa

namespace Go.Proofs.Ytennphechbngcaa
open Go.RowKit
set_option linter.unusedVariables false
set_option linter.unusedSimpArgs false

/-- What an end may be: there is none, or a number. -/
def okE (n s : Bool) (l : List Nat) : Bool := bif n then (!s && decide (l.length = 0)) else okI s l

set_option maxHeartbeats 1000000 in
theorem r16mayB_any {w : World} {Z : Zone} {n s : Bool} {l : List Nat} {A : Option Addr} {c : Nat} (hu : U64s w Z A c l) :
    Calls Try.prog 72 #[.agg #[.bool n, .bool s, .slice A l.length c]] w fun e w' => e = .returned (.bool (okE n s l)) ∧ Below w.heap.size w w' := by
  have hlen := hu.len
  have hb0 : Below w.heap.size w (w.alloc (.cells #[.bool n, .bool s, .slice A l.length c] 27)) := (Below.refl _ w).alloc (Nat.le_refl _) _
  obtain ⟨q0, q1, q2, _, _, _, _⟩ := Box3.new w (.bool n) (.bool s) (.slice A l.length c) 27
  have hm := r5may_any (a := .agg #[.bool s, .slice A l.length c]) ⟨_, rfl, A, c, rfl, hu.below hb0⟩
  have Hb0 := Lib.hid hb0
  cases n with
  | false =>
    rw [show okE false s l = okI s l from rfl]
    obtain ⟨g, hg⟩ : ∃ g, g = okI s l := ⟨_, rfl⟩
    rw [← hg] at hm ⊢
    have Hm := Lib.hid hm
    clear hm hu hb0 hg
    go_enter Try.func72, Try.ntmps72
    go_wp2_with fail
    refine Hm.out.mono ?_
    rintro e w1 ⟨rfl, hb1⟩
    go_wp2
    go_ret
    exact ⟨rfl, from_ Hb0.out hb1⟩
  | true =>
    clear hm
    cases s with
    | true =>
      clear hu hb0
      go_enter Try.func72, Try.ntmps72
      go_wp2
      go_ret
      exact ⟨rfl, Hb0.out⟩
    | false =>
      by_cases h0 : l.length = 0
      · have e1 : okE true false l = true := by simp [okE, h0]
        rw [e1]
        rw [h0] at q2 Hb0 ⊢
        clear hu hb0 e1
        go_enter Try.func72, Try.ntmps72
        go_wp2
        go_ret
        exact ⟨rfl, Hb0.out⟩
      · have e1 : okE true false l = false := by simp [okE, h0]
        rw [e1]
        have hd : ((l.length : Int) == (0 : Int)) = false := beq_eq_false_iff_ne.2 (by omega)
        have hd2 : decide ((l.length : Int) = (0 : Int)) = false := decide_eq_false (by omega)
        clear hu hb0 e1
        go_enter Try.func72, Try.ntmps72
        go_wp2
        go_ret
        exact ⟨rfl, Hb0.out⟩

set_option maxHeartbeats 1000000 in
theorem imay_any {w : World} {Z : Zone} {n s : Bool} {l : List Nat} {A : Option Addr} {c : Nat} (hu : U64s w Z A c l) :
    Calls Try.prog 34 #[.agg #[.bool n, .bool s, .slice A l.length c]] w fun e w' => e = .returned (.bool (okE n s l)) ∧ Below w.heap.size w w' := by
  have hlen := hu.len
  have hb0 : Below w.heap.size w (w.alloc (.cells #[.bool n, .bool s, .slice A l.length c] 27)) := (Below.refl _ w).alloc (Nat.le_refl _) _
  obtain ⟨q0, q1, q2, _, _, _, _⟩ := Box3.new w (.bool n) (.bool s) (.slice A l.length c) 27
  have hm := wcheck_any (a := .agg #[.bool s, .slice A l.length c]) ⟨_, rfl, A, c, rfl, hu.below hb0⟩
  have Hb0 := Lib.hid hb0
  cases n with
  | false =>
    rw [show okE false s l = okI s l from rfl]
    cases hg : okI s l with
    | true =>
      rw [show errC s l = 0 by simp [errC, hg]] at hm
      have Hm := Lib.hid hm
      clear hm hu hb0 hg
      go_enter Try.func34, Try.ntmps34
      go_wp2_with fail
      refine Hm.out.mono ?_
      rintro e w1 ⟨rfl, hb1⟩
      go_wp2
      go_ret
      exact ⟨rfl, from_ Hb0.out hb1⟩
    | false =>
      rw [show errC s l = 8 by simp [errC, hg]] at hm
      have Hm := Lib.hid hm
      clear hm hu hb0 hg
      go_enter Try.func34, Try.ntmps34
      go_wp2_with fail
      refine Hm.out.mono ?_
      rintro e w1 ⟨rfl, hb1⟩
      go_wp2
      go_ret
      exact ⟨rfl, from_ Hb0.out hb1⟩
  | true =>
    clear hm
    cases s with
    | true =>
      clear hu hb0
      go_enter Try.func34, Try.ntmps34
      go_wp2
      go_ret
      exact ⟨rfl, Hb0.out⟩
    | false =>
      by_cases h0 : l.length = 0
      · have e1 : okE true false l = true := by simp [okE, h0]
        rw [e1]
        rw [h0] at q2 Hb0 ⊢
        clear hu hb0 e1
        go_enter Try.func34, Try.ntmps34
        go_wp2
        go_ret
        exact ⟨rfl, Hb0.out⟩
      · have e1 : okE true false l = false := by simp [okE, h0]
        rw [e1]
        have hd : ((l.length : Int) == (0 : Int)) = false := beq_eq_false_iff_ne.2 (by omega)
        have hd2 : decide ((l.length : Int) = (0 : Int)) = false := decide_eq_false (by omega)
        clear hu hb0 e1
        go_enter Try.func34, Try.ntmps34
        go_wp2
        go_ret
        exact ⟨rfl, Hb0.out⟩

/-- Six cells of a block of one's own. -/
structure Box6 (W : World) (g : Nat) (a b c d e f : Value) : Prop where
  c0 : W.cell? ⟨g, 0, none⟩ = some a
  c1 : W.cell? ⟨g, 1, none⟩ = some b
  c2 : W.cell? ⟨g, 2, none⟩ = some c
  c3 : W.cell? ⟨g, 3, none⟩ = some d
  c4 : W.cell? ⟨g, 4, none⟩ = some e
  c5 : W.cell? ⟨g, 5, none⟩ = some f
  f0 : W.frozen? ⟨g, 0, none⟩ = false
  f1 : W.frozen? ⟨g, 1, none⟩ = false
  f2 : W.frozen? ⟨g, 2, none⟩ = false
  f3 : W.frozen? ⟨g, 3, none⟩ = false
  f4 : W.frozen? ⟨g, 4, none⟩ = false
  f5 : W.frozen? ⟨g, 5, none⟩ = false
  lt : g < W.heap.size
theorem Box6.new (w : World) (a b c d e f : Value) (t : TypeId) : Box6 (w.alloc (.cells #[a, b, c, d, e, f] t)) w.heap.size a b c d e f :=
  ⟨cell_newest rfl rfl, cell_newest rfl rfl, cell_newest rfl rfl, cell_newest rfl rfl, cell_newest rfl rfl, cell_newest rfl rfl, by simp, by simp, by simp, by simp, by simp, by simp, by simp⟩
theorem Box6.below {W W' : World} {g : Nat} {a b c d e f : Value} (h : Box6 W g a b c d e f) (hb : Below W.heap.size W W') : Box6 W' g a b c d e f :=
  ⟨keepC hb h.c0, keepC hb h.c1, keepC hb h.c2, keepC hb h.c3, keepC hb h.c4, keepC hb h.c5, keepF hb h.lt h.f0, keepF hb h.lt h.f1, keepF hb h.lt h.f2, keepF hb h.lt h.f3, keepF hb h.lt h.f4, keepF hb h.lt h.f5, Nat.lt_of_lt_of_le h.lt hb.size⟩
theorem Box6.alloc {W : World} {g : Nat} {a b c d e f : Value} (h : Box6 W g a b c d e f) (o : Obj) : Box6 (W.alloc o) g a b c d e f := h.below ((Below.refl _ W).alloc (Nat.le_refl _) _)

theorem loadVar_itv {w : World} {g : Nat} {a b c d e f : Value} (h : Box6 w g a b c d e f) :
    (loadVar 29 ⟨g, 0, none⟩).run Try.prog w = .ok (.agg #[a, b, c, d, e, f]) w := by
  obtain ⟨h0, h1, h2, h3, h4, h5, _, _, _, _, _, _, _⟩ := h
  unfold loadVar
  go_simp
theorem loadVar_bound {w : World} {g : Nat} {v0 v1 v2 : Value} (h0 : w.cell? ⟨g, 0, none⟩ = some v0) (h1 : w.cell? ⟨g, 1, none⟩ = some v1) (h2 : w.cell? ⟨g, 2, none⟩ = some v2) :
    (loadVar 27 ⟨g, 0, none⟩).run Try.prog w = .ok (.agg #[v0, v1, v2]) w := by
  unfold loadVar
  go_simp
theorem loadVar_place {w : World} {g : Nat} {v0 v1 v2 : Value} (h0 : w.cell? ⟨g, 0, none⟩ = some v0) (h1 : w.cell? ⟨g, 1, none⟩ = some v1) (h2 : w.cell? ⟨g, 2, none⟩ = some v2) :
    (loadVar 64 ⟨g, 0, none⟩).run Try.prog w = .ok (.agg #[v0, v1, v2]) w := by
  unfold loadVar
  go_simp

theorem res_itv {fn : Func} {p : Tmp} (h : fn.results = #[.cell p 29]) (tmps : Array Value) {w : World} (g : Nat) {a b c d e f : Value} (hp : tmps.getD p undef = .pointer (some ⟨g, 0, none⟩)) (hB : Box6 w g a b c d e f) :
    (results fn tmps).run Try.prog w = .ok (.agg #[a, b, c, d, e, f]) w := by
  have hp' : tmps[p]?.getD undef = .pointer (some ⟨g, 0, none⟩) := by simpa using hp
  simp [results, h, hp', asAddr, loadVar_itv hB]
theorem res_itv2 {fn : Func} {p u : Tmp} (h : fn.results = #[.cell p 29, .tmp u]) (tmps : Array Value) {w : World} (g : Nat) {a b c d e f : Value} (hp : tmps.getD p undef = .pointer (some ⟨g, 0, none⟩)) (hB : Box6 w g a b c d e f) :
    (results fn tmps).run Try.prog w = .ok (.tuple #[.agg #[a, b, c, d, e, f], tmps.getD u undef]) w := by
  rw [results_cell_tmp h, hp]
  simp [asAddr, Result.andThen, loadVar_itv hB]
theorem res_bound {fn : Func} {p : Tmp} (h : fn.results = #[.cell p 27]) (tmps : Array Value) {w : World} (g : Nat) {v0 v1 v2 : Value} (hp : tmps.getD p undef = .pointer (some ⟨g, 0, none⟩)) (h0 : w.cell? ⟨g, 0, none⟩ = some v0) (h1 : w.cell? ⟨g, 1, none⟩ = some v1) (h2 : w.cell? ⟨g, 2, none⟩ = some v2) :
    (results fn tmps).run Try.prog w = .ok (.agg #[v0, v1, v2]) w := by
  have hp' : tmps[p]?.getD undef = .pointer (some ⟨g, 0, none⟩) := by simpa using hp
  simp [results, h, hp', asAddr, loadVar_bound h0 h1 h2]
theorem res_place {fn : Func} {p : Tmp} (h : fn.results = #[.cell p 64]) (tmps : Array Value) {w : World} (g : Nat) {v0 v1 v2 : Value} (hp : tmps.getD p undef = .pointer (some ⟨g, 0, none⟩)) (h0 : w.cell? ⟨g, 0, none⟩ = some v0) (h1 : w.cell? ⟨g, 1, none⟩ = some v1) (h2 : w.cell? ⟨g, 2, none⟩ = some v2) :
    (results fn tmps).run Try.prog w = .ok (.agg #[v0, v1, v2]) w := by
  have hp' : tmps[p]?.getD undef = .pointer (some ⟨g, 0, none⟩) := by simpa using hp
  simp [results, h, hp', asAddr, loadVar_place h0 h1 h2]

end Go.Proofs.Ytennphechbngcaa

namespace Go.Proofs.Ytennphechbngcaa
open Go.RowKit
set_option linter.unusedVariables false
set_option linter.unusedSimpArgs false

/-- What an interval may be. -/
def okA (n0 s0 : Bool) (l0 : List Nat) (n1 s1 : Bool) (l1 : List Nat) : Bool := okE n0 s0 l0 && (okE n1 s1 l1 && (n0 || (n1 || decide (zof s0 l0 ≤ zof s1 l1))))
def errA (n0 s0 : Bool) (l0 : List Nat) (n1 s1 : Bool) (l1 : List Nat) : Int := if okA n0 s0 l0 n1 s1 l1 = true then 0 else 8

theorem sgn_le {x y : Int} (h : x ≤ y) : sgn (x - y) ≤ 0 := by unfold sgn; split <;> (try split) <;> omega
theorem sgn_gt {x y : Int} (h : ¬ x ≤ y) : ¬ sgn (x - y) ≤ 0 := by unfold sgn; split <;> (try split) <;> omega
theorem zof_len {s : Bool} {l : List Nat} (h : okI s l = true) (hs : Small l) : (limbs (zof s l).natAbs).length = l.length := by rw [(zof_enc h hs).2]

set_option maxRecDepth 100000 in
set_option maxHeartbeats 2000000 in
theorem r16may_any {w : World} {Z Y : Zone} {n0 s0 n1 s1 : Bool} {l0 l1 : List Nat} {A B : Option Addr} {c d : Nat} (hu : U64s w Z A c l0) (hv : U64s w Y B d l1) (hl : l0.length ≤ 9000) (hl2 : l1.length ≤ 9000) :
    Calls Try.prog 45 #[.agg #[.bool n0, .bool s0, .slice A l0.length c, .bool n1, .bool s1, .slice B l1.length d]] w fun e w' => e = .returned (.bool (okA n0 s0 l0 n1 s1 l1)) ∧ Below w.heap.size w w' := by
  have hsu := hu.small
  have hsv := hv.small
  obtain ⟨c0, c1, c2, c3, c4, c5, _, _, _, _, _, _, _⟩ := Box6.new w (.bool n0) (.bool s0) (.slice A l0.length c) (.bool n1) (.bool s1) (.slice B l1.length d) 29
  have HB := Lib.hid (Box6.new w (.bool n0) (.bool s0) (.slice A l0.length c) (.bool n1) (.bool s1) (.slice B l1.length d) 29)
  have Hb0 := Lib.hid ((Below.refl _ w).alloc (Nat.le_refl _) (.cells #[.bool n0, .bool s0, .slice A l0.length c, .bool n1, .bool s1, .slice B l1.length d] 29))
  obtain ⟨p, hp⟩ : ∃ p, p = okE n0 s0 l0 := ⟨_, rfl⟩
  obtain ⟨q, hq⟩ : ∃ q, q = okE n1 s1 l1 := ⟨_, rfl⟩
  have Hp := Lib.hid hp
  have Hq := Lib.hid hq
  have Hu := Lib.hid hu
  have Hv := Lib.hid hv
  have H1 := Lib.hid (fun (W : World) (h : Below w.heap.size w W) => r16mayB_any (n := n0) (s := s0) (hu.below h))
  have H2 := Lib.hid (fun (W : World) (h : Below w.heap.size w W) => r16mayB_any (n := n1) (s := s1) (hv.below h))
  rw [← hp] at H1
  rw [← hq] at H2
  clear hu hv hp hq
  cases p with
  | false =>
    have e1 : okA n0 s0 l0 n1 s1 l1 = false := by simp [okA, ← Hp.out]
    rw [e1]
    clear e1
    go_enter Try.func45, Try.ntmps45
    go_wp2_with fail
    refine (H1.out _ Hb0.out).mono ?_
    rintro e w1 ⟨rfl, hb1⟩
    have hb2 := from_ Hb0.out hb1
    have HB2 := Lib.hid (HB.out.below hb1)
    clear c0 c1 c2 c3 c4 c5
    obtain ⟨c0, c1, c2, c3, c4, c5, _, _, _, _, _, _, _⟩ := HB2.out
    go_wp2
    go_ret
    exact ⟨rfl, hb2⟩
  | true =>
    cases q with
    | false =>
      have e1 : okA n0 s0 l0 n1 s1 l1 = false := by simp [okA, ← Hp.out, ← Hq.out]
      rw [e1]
      clear e1
      go_enter Try.func45, Try.ntmps45
      go_wp2_with fail
      refine (H1.out _ Hb0.out).mono ?_
      rintro e w1 ⟨rfl, hb1⟩
      have hb2 := from_ Hb0.out hb1
      have HB2 := Lib.hid (HB.out.below hb1)
      clear c0 c1 c2 c3 c4 c5
      obtain ⟨c0, c1, c2, c3, c4, c5, _, _, _, _, _, _, _⟩ := HB2.out
      go_wp2_with fail
      refine (H2.out _ hb2).mono ?_
      rintro e w2 ⟨rfl, hb3⟩
      have hb4 := from_ hb2 hb3
      have HB4 := Lib.hid (HB2.out.below hb3)
      clear c0 c1 c2 c3 c4 c5
      obtain ⟨c0, c1, c2, c3, c4, c5, _, _, _, _, _, _, _⟩ := HB4.out
      go_wp2
      go_ret
      exact ⟨rfl, hb4⟩
    | true =>
      cases n0 with
      | true =>
        have e1 : okA true s0 l0 n1 s1 l1 = true := by simp [okA, ← Hp.out, ← Hq.out]
        rw [e1]
        clear e1
        go_enter Try.func45, Try.ntmps45
        go_wp2_with fail
        refine (H1.out _ Hb0.out).mono ?_
        rintro e w1 ⟨rfl, hb1⟩
        have hb2 := from_ Hb0.out hb1
        have HB2 := Lib.hid (HB.out.below hb1)
        clear c0 c1 c2 c3 c4 c5
        obtain ⟨c0, c1, c2, c3, c4, c5, _, _, _, _, _, _, _⟩ := HB2.out
        go_wp2_with fail
        refine (H2.out _ hb2).mono ?_
        rintro e w2 ⟨rfl, hb3⟩
        have hb4 := from_ hb2 hb3
        have HB4 := Lib.hid (HB2.out.below hb3)
        clear c0 c1 c2 c3 c4 c5
        obtain ⟨c0, c1, c2, c3, c4, c5, _, _, _, _, _, _, _⟩ := HB4.out
        go_wp2
        go_ret
        exact ⟨rfl, hb4⟩
      | false =>
        cases n1 with
        | true =>
          have e1 : okA false s0 l0 true s1 l1 = true := by simp [okA, ← Hp.out, ← Hq.out]
          rw [e1]
          clear e1
          go_enter Try.func45, Try.ntmps45
          go_wp2_with fail
          refine (H1.out _ Hb0.out).mono ?_
          rintro e w1 ⟨rfl, hb1⟩
          have hb2 := from_ Hb0.out hb1
          have HB2 := Lib.hid (HB.out.below hb1)
          clear c0 c1 c2 c3 c4 c5
          obtain ⟨c0, c1, c2, c3, c4, c5, _, _, _, _, _, _, _⟩ := HB2.out
          go_wp2_with fail
          refine (H2.out _ hb2).mono ?_
          rintro e w2 ⟨rfl, hb3⟩
          have hb4 := from_ hb2 hb3
          have HB4 := Lib.hid (HB2.out.below hb3)
          clear c0 c1 c2 c3 c4 c5
          obtain ⟨c0, c1, c2, c3, c4, c5, _, _, _, _, _, _, _⟩ := HB4.out
          go_wp2
          go_ret
          exact ⟨rfl, hb4⟩
        | false =>
          have k0 : okI s0 l0 = true := Hp.out.symm
          have k1 : okI s1 l1 = true := Hq.out.symm
          have z0 := zof_len k0 hsu
          have z1 := zof_len k1 hsv
          have n0 := Nm.ok k0 hsu
          have n1 := Nm.ok k1 hsv
          have hz : zof s0 l0 ≤ zof s1 l1 ∨ ¬ zof s0 l0 ≤ zof s1 l1 := Decidable.em _
          obtain ⟨x, hx⟩ : ∃ x, x = zof s0 l0 := ⟨_, rfl⟩
          obtain ⟨y, hy⟩ : ∃ y, y = zof s1 l1 := ⟨_, rfl⟩
          rw [← hx] at z0 n0 hz
          rw [← hy] at z1 n1 hz
          obtain ⟨g, hg⟩ : ∃ g, g = sgn (x - y) := ⟨_, rfl⟩
          have H3 := Lib.hid (fun (W : World) (h : Below w.heap.size w W) => r5compared_good (n0.isZ (Hu.out.below h)) (n1.isZ (Hv.out.below h)) (by omega) (by omega))
          rw [← hg] at H3
          clear z0 z1 n0 n1
          rcases hz with hz | hz
          · have hgz : g ≤ 0 := by rw [hg]; exact sgn_le hz
            have e1 : okA false s0 l0 false s1 l1 = true := by simp [okA, ← Hp.out, ← Hq.out, ← hx, ← hy, hz]
            rw [e1]
            clear e1
            have hd : decide (g ≤ 0) = true := by simpa using hgz
            have hd2 : decide (0 < g) = false := by simp; omega
            have HK := Lib.hid hx
            have HK2 := Lib.hid hy
            have HK3 := Lib.hid hg
            clear hx hy hg hz hgz k0 k1
            go_enter Try.func45, Try.ntmps45
            go_wp2_with fail
            refine (H1.out _ Hb0.out).mono ?_
            rintro e w1 ⟨rfl, hb1⟩
            have hb2 := from_ Hb0.out hb1
            have HB2 := Lib.hid (HB.out.below hb1)
            clear c0 c1 c2 c3 c4 c5
            obtain ⟨c0, c1, c2, c3, c4, c5, _, _, _, _, _, _, _⟩ := HB2.out
            go_wp2_with fail
            refine (H2.out _ hb2).mono ?_
            rintro e w2 ⟨rfl, hb3⟩
            have hb4 := from_ hb2 hb3
            have HB4 := Lib.hid (HB2.out.below hb3)
            clear c0 c1 c2 c3 c4 c5
            obtain ⟨c0, c1, c2, c3, c4, c5, _, _, _, _, _, _, _⟩ := HB4.out
            go_wp2_with fail
            refine (H3.out _ hb4).mono ?_
            rintro e w3 ⟨rfl, hb5⟩
            have hb6 := from_ hb4 hb5
            go_wp2
            go_ret
            exact ⟨rfl, hb6⟩
          · have hgz : ¬ g ≤ 0 := by rw [hg]; exact sgn_gt hz
            have e1 : okA false s0 l0 false s1 l1 = false := by simp [okA, ← Hp.out, ← Hq.out, ← hx, ← hy, hz]
            rw [e1]
            clear e1
            have hd : decide (g ≤ 0) = false := by simpa using hgz
            have hd2 : decide (0 < g) = true := by simp; omega
            have HK := Lib.hid hx
            have HK2 := Lib.hid hy
            have HK3 := Lib.hid hg
            clear hx hy hg hz hgz k0 k1
            go_enter Try.func45, Try.ntmps45
            go_wp2_with fail
            refine (H1.out _ Hb0.out).mono ?_
            rintro e w1 ⟨rfl, hb1⟩
            have hb2 := from_ Hb0.out hb1
            have HB2 := Lib.hid (HB.out.below hb1)
            clear c0 c1 c2 c3 c4 c5
            obtain ⟨c0, c1, c2, c3, c4, c5, _, _, _, _, _, _, _⟩ := HB2.out
            go_wp2_with fail
            refine (H2.out _ hb2).mono ?_
            rintro e w2 ⟨rfl, hb3⟩
            have hb4 := from_ hb2 hb3
            have HB4 := Lib.hid (HB2.out.below hb3)
            clear c0 c1 c2 c3 c4 c5
            obtain ⟨c0, c1, c2, c3, c4, c5, _, _, _, _, _, _, _⟩ := HB4.out
            go_wp2_with fail
            refine (H3.out _ hb4).mono ?_
            rintro e w3 ⟨rfl, hb5⟩
            have hb6 := from_ hb4 hb5
            go_wp2
            go_ret
            exact ⟨rfl, hb6⟩

set_option maxRecDepth 100000 in
set_option maxHeartbeats 2000000 in
theorem icheck_any {w : World} {Z Y : Zone} {n0 s0 n1 s1 : Bool} {l0 l1 : List Nat} {A B : Option Addr} {c d : Nat} (hu : U64s w Z A c l0) (hv : U64s w Y B d l1) (hl : l0.length ≤ 9000) (hl2 : l1.length ≤ 9000) :
    Calls Try.prog 8 #[.agg #[.bool n0, .bool s0, .slice A l0.length c, .bool n1, .bool s1, .slice B l1.length d]] w fun e w' => e = .returned (.int .i64 (errA n0 s0 l0 n1 s1 l1)) ∧ Below w.heap.size w w' := by
  have hsu := hu.small
  have hsv := hv.small
  obtain ⟨c0, c1, c2, c3, c4, c5, _, _, _, _, _, _, _⟩ := Box6.new w (.bool n0) (.bool s0) (.slice A l0.length c) (.bool n1) (.bool s1) (.slice B l1.length d) 29
  have HB := Lib.hid (Box6.new w (.bool n0) (.bool s0) (.slice A l0.length c) (.bool n1) (.bool s1) (.slice B l1.length d) 29)
  have Hb0 := Lib.hid ((Below.refl _ w).alloc (Nat.le_refl _) (.cells #[.bool n0, .bool s0, .slice A l0.length c, .bool n1, .bool s1, .slice B l1.length d] 29))
  obtain ⟨p, hp⟩ : ∃ p, p = okE n0 s0 l0 := ⟨_, rfl⟩
  obtain ⟨q, hq⟩ : ∃ q, q = okE n1 s1 l1 := ⟨_, rfl⟩
  have Hp := Lib.hid hp
  have Hq := Lib.hid hq
  have Hu := Lib.hid hu
  have Hv := Lib.hid hv
  have H1 := Lib.hid (fun (W : World) (h : Below w.heap.size w W) => imay_any (n := n0) (s := s0) (hu.below h))
  have H2 := Lib.hid (fun (W : World) (h : Below w.heap.size w W) => imay_any (n := n1) (s := s1) (hv.below h))
  rw [← hp] at H1
  rw [← hq] at H2
  clear hu hv hp hq
  cases p with
  | false =>
    have e1 : errA n0 s0 l0 n1 s1 l1 = 8 := by simp [errA, okA, ← Hp.out]
    rw [e1]
    clear e1
    go_enter Try.func8, Try.ntmps8
    go_wp2_with fail
    refine (H1.out _ Hb0.out).mono ?_
    rintro e w1 ⟨rfl, hb1⟩
    have hb2 := from_ Hb0.out hb1
    have HB2 := Lib.hid (HB.out.below hb1)
    clear c0 c1 c2 c3 c4 c5
    obtain ⟨c0, c1, c2, c3, c4, c5, _, _, _, _, _, _, _⟩ := HB2.out
    go_wp2
    go_ret
    exact ⟨rfl, hb2⟩
  | true =>
    cases q with
    | false =>
      have e1 : errA n0 s0 l0 n1 s1 l1 = 8 := by simp [errA, okA, ← Hp.out, ← Hq.out]
      rw [e1]
      clear e1
      go_enter Try.func8, Try.ntmps8
      go_wp2_with fail
      refine (H1.out _ Hb0.out).mono ?_
      rintro e w1 ⟨rfl, hb1⟩
      have hb2 := from_ Hb0.out hb1
      have HB2 := Lib.hid (HB.out.below hb1)
      clear c0 c1 c2 c3 c4 c5
      obtain ⟨c0, c1, c2, c3, c4, c5, _, _, _, _, _, _, _⟩ := HB2.out
      go_wp2_with fail
      refine (H2.out _ hb2).mono ?_
      rintro e w2 ⟨rfl, hb3⟩
      have hb4 := from_ hb2 hb3
      have HB4 := Lib.hid (HB2.out.below hb3)
      clear c0 c1 c2 c3 c4 c5
      obtain ⟨c0, c1, c2, c3, c4, c5, _, _, _, _, _, _, _⟩ := HB4.out
      go_wp2
      go_ret
      exact ⟨rfl, hb4⟩
    | true =>
      cases n0 with
      | true =>
        have e1 : errA true s0 l0 n1 s1 l1 = 0 := by simp [errA, okA, ← Hp.out, ← Hq.out]
        rw [e1]
        clear e1
        go_enter Try.func8, Try.ntmps8
        go_wp2_with fail
        refine (H1.out _ Hb0.out).mono ?_
        rintro e w1 ⟨rfl, hb1⟩
        have hb2 := from_ Hb0.out hb1
        have HB2 := Lib.hid (HB.out.below hb1)
        clear c0 c1 c2 c3 c4 c5
        obtain ⟨c0, c1, c2, c3, c4, c5, _, _, _, _, _, _, _⟩ := HB2.out
        go_wp2_with fail
        refine (H2.out _ hb2).mono ?_
        rintro e w2 ⟨rfl, hb3⟩
        have hb4 := from_ hb2 hb3
        have HB4 := Lib.hid (HB2.out.below hb3)
        clear c0 c1 c2 c3 c4 c5
        obtain ⟨c0, c1, c2, c3, c4, c5, _, _, _, _, _, _, _⟩ := HB4.out
        go_wp2
        go_ret
        exact ⟨rfl, hb4⟩
      | false =>
        cases n1 with
        | true =>
          have e1 : errA false s0 l0 true s1 l1 = 0 := by simp [errA, okA, ← Hp.out, ← Hq.out]
          rw [e1]
          clear e1
          go_enter Try.func8, Try.ntmps8
          go_wp2_with fail
          refine (H1.out _ Hb0.out).mono ?_
          rintro e w1 ⟨rfl, hb1⟩
          have hb2 := from_ Hb0.out hb1
          have HB2 := Lib.hid (HB.out.below hb1)
          clear c0 c1 c2 c3 c4 c5
          obtain ⟨c0, c1, c2, c3, c4, c5, _, _, _, _, _, _, _⟩ := HB2.out
          go_wp2_with fail
          refine (H2.out _ hb2).mono ?_
          rintro e w2 ⟨rfl, hb3⟩
          have hb4 := from_ hb2 hb3
          have HB4 := Lib.hid (HB2.out.below hb3)
          clear c0 c1 c2 c3 c4 c5
          obtain ⟨c0, c1, c2, c3, c4, c5, _, _, _, _, _, _, _⟩ := HB4.out
          go_wp2
          go_ret
          exact ⟨rfl, hb4⟩
        | false =>
          have k0 : okI s0 l0 = true := Hp.out.symm
          have k1 : okI s1 l1 = true := Hq.out.symm
          have z0 := zof_len k0 hsu
          have z1 := zof_len k1 hsv
          have n0 := Nm.ok k0 hsu
          have n1 := Nm.ok k1 hsv
          have hz : zof s0 l0 ≤ zof s1 l1 ∨ ¬ zof s0 l0 ≤ zof s1 l1 := Decidable.em _
          obtain ⟨x, hx⟩ : ∃ x, x = zof s0 l0 := ⟨_, rfl⟩
          obtain ⟨y, hy⟩ : ∃ y, y = zof s1 l1 := ⟨_, rfl⟩
          rw [← hx] at z0 n0 hz
          rw [← hy] at z1 n1 hz
          obtain ⟨g, hg⟩ : ∃ g, g = sgn (x - y) := ⟨_, rfl⟩
          have H3 := Lib.hid (fun (W : World) (h : Below w.heap.size w W) => cmp_n (w := W) n0 n1 hg.symm (by omega) (by omega) (Hu.out.below h) (Hv.out.below h))
          clear z0 z1 n0 n1
          rcases hz with hz | hz
          · have hgz : g ≤ 0 := by rw [hg]; exact sgn_le hz
            have e1 : errA false s0 l0 false s1 l1 = 0 := by simp [errA, okA, ← Hp.out, ← Hq.out, ← hx, ← hy, hz]
            rw [e1]
            clear e1
            have hd : decide (g ≤ 0) = true := by simpa using hgz
            have hd2 : decide (0 < g) = false := by simp; omega
            have HK := Lib.hid hx
            have HK2 := Lib.hid hy
            have HK3 := Lib.hid hg
            clear hx hy hg hz hgz k0 k1
            go_enter Try.func8, Try.ntmps8
            go_wp2_with fail
            refine (H1.out _ Hb0.out).mono ?_
            rintro e w1 ⟨rfl, hb1⟩
            have hb2 := from_ Hb0.out hb1
            have HB2 := Lib.hid (HB.out.below hb1)
            clear c0 c1 c2 c3 c4 c5
            obtain ⟨c0, c1, c2, c3, c4, c5, _, _, _, _, _, _, _⟩ := HB2.out
            go_wp2_with fail
            refine (H2.out _ hb2).mono ?_
            rintro e w2 ⟨rfl, hb3⟩
            have hb4 := from_ hb2 hb3
            have HB4 := Lib.hid (HB2.out.below hb3)
            clear c0 c1 c2 c3 c4 c5
            obtain ⟨c0, c1, c2, c3, c4, c5, _, _, _, _, _, _, _⟩ := HB4.out
            go_wp2_with fail
            refine (H3.out _ hb4).mono ?_
            rintro e w3 ⟨rfl, hb5⟩
            have hb6 := from_ hb4 hb5
            go_wp2
            go_ret
            exact ⟨rfl, hb6⟩
          · have hgz : ¬ g ≤ 0 := by rw [hg]; exact sgn_gt hz
            have e1 : errA false s0 l0 false s1 l1 = 8 := by simp [errA, okA, ← Hp.out, ← Hq.out, ← hx, ← hy, hz]
            rw [e1]
            clear e1
            have hd : decide (g ≤ 0) = false := by simpa using hgz
            have hd2 : decide (0 < g) = true := by simp; omega
            have HK := Lib.hid hx
            have HK2 := Lib.hid hy
            have HK3 := Lib.hid hg
            clear hx hy hg hz hgz k0 k1
            go_enter Try.func8, Try.ntmps8
            go_wp2_with fail
            refine (H1.out _ Hb0.out).mono ?_
            rintro e w1 ⟨rfl, hb1⟩
            have hb2 := from_ Hb0.out hb1
            have HB2 := Lib.hid (HB.out.below hb1)
            clear c0 c1 c2 c3 c4 c5
            obtain ⟨c0, c1, c2, c3, c4, c5, _, _, _, _, _, _, _⟩ := HB2.out
            go_wp2_with fail
            refine (H2.out _ hb2).mono ?_
            rintro e w2 ⟨rfl, hb3⟩
            have hb4 := from_ hb2 hb3
            have HB4 := Lib.hid (HB2.out.below hb3)
            clear c0 c1 c2 c3 c4 c5
            obtain ⟨c0, c1, c2, c3, c4, c5, _, _, _, _, _, _, _⟩ := HB4.out
            go_wp2_with fail
            refine (H3.out _ hb4).mono ?_
            rintro e w3 ⟨rfl, hb5⟩
            have hb6 := from_ hb4 hb5
            go_wp2
            go_ret
            exact ⟨rfl, hb6⟩


end Go.Proofs.Ytennphechbngcaa

namespace Go.Proofs.Ytennphechbngcaa
open Go.RowKit
set_option linter.unusedVariables false
set_option linter.unusedSimpArgs false

/-- An end (none, sign, words) as a place (k: where there is none). -/
def Plc (k : Int) (n s : Bool) (l : List Nat) (A : Option Addr) (c : Nat) (b : Int) (s' : Bool) (l' : List Nat) (A' : Option Addr) (c' : Nat) : Prop :=
  (n = true ∧ b = k ∧ s' = false ∧ l' = [] ∧ A' = none ∧ c' = 0) ∨ (n = false ∧ b = 0 ∧ s' = s ∧ l' = l ∧ A' = A ∧ c' = c)
theorem Plc.ex (k : Int) (n s : Bool) (l : List Nat) (A : Option Addr) (c : Nat) : ∃ b s' l' A' c', Plc k n s l A c b s' l' A' c' := by
  cases n
  · exact ⟨_, _, _, _, _, Or.inr ⟨rfl, rfl, rfl, rfl, rfl, rfl⟩⟩
  · exact ⟨_, _, _, _, _, Or.inl ⟨rfl, rfl, rfl, rfl, rfl, rfl⟩⟩

theorem boxP (w : World) (v0 v1 v2 v3 v4 v5 p0 p1 p2 : Value) (t u : TypeId) :
    Box6 ((w.alloc (.cells #[v0, v1, v2, v3, v4, v5] t)).alloc (.cells #[p0, p1, p2] u)) w.heap.size v0 v1 v2 v3 v4 v5 ∧
    Box3 ((w.alloc (.cells #[v0, v1, v2, v3, v4, v5] t)).alloc (.cells #[p0, p1, p2] u)) (w.heap.size + 1) p0 p1 p2 ∧
    Below w.heap.size w ((w.alloc (.cells #[v0, v1, v2, v3, v4, v5] t)).alloc (.cells #[p0, p1, p2] u)) := by
  have h1 := (Box6.new w v0 v1 v2 v3 v4 v5 t).alloc (.cells #[p0, p1, p2] u)
  have h2 := Box3.new (w.alloc (.cells #[v0, v1, v2, v3, v4, v5] t)) p0 p1 p2 u
  rw [show (w.alloc (.cells #[v0, v1, v2, v3, v4, v5] t)).heap.size = w.heap.size + 1 by simp] at h2
  exact ⟨h1, h2, ((Below.refl _ w).alloc (Nat.le_refl _) _).alloc (by simp) _⟩

theorem ilow_p {w : World} {n s : Bool} {l : List Nat} {A : Option Addr} {c : Nat} {b : Int} {s' : Bool} {l' : List Nat} {A' : Option Addr} {c' : Nat} {v3 v4 v5 : Value} (h : Plc (-1) n s l A c b s' l' A' c') :
    Calls Try.prog 37 #[.agg #[.bool n, .bool s, .slice A l.length c, v3, v4, v5]] w fun e w' => e = .returned (.agg #[.int .i64 b, .bool s', .slice A' l'.length c']) ∧ Below w.heap.size w w' := by
  rcases h with ⟨rfl, rfl, rfl, rfl, rfl, rfl⟩ | ⟨rfl, rfl, rfl, rfl, rfl, rfl⟩
  · obtain ⟨B1, _, _⟩ := boxP w (.bool true) (.bool s) (.slice A l.length c) v3 v4 v5 (.int .i64 0) (.bool false) (.slice none 0 0) 29 64
    have HP := Lib.hid (boxP w (.bool true) (.bool s) (.slice A l.length c) v3 v4 v5 (.int .i64 (-1)) (.bool false) (.slice none 0 0) 29 64)
    obtain ⟨c0, c1, c2, _⟩ := B1
    go_enter Try.func37, Try.ntmps37
    go_wp2
    obtain ⟨_, B2, hb⟩ := HP.out
    refine bodyPost_ret (res_place rfl _ (w.heap.size + 1) rfl B2.c0 B2.c1 B2.c2) rfl ?_
    exact ⟨rfl, hb⟩
  · obtain ⟨B1, _, _⟩ := boxP w (.bool false) (.bool s') (.slice A' l'.length c') v3 v4 v5 (.int .i64 0) (.bool false) (.slice none 0 0) 29 64
    have HP := Lib.hid (boxP w (.bool false) (.bool s') (.slice A' l'.length c') v3 v4 v5 (.int .i64 0) (.bool s') (.slice A' l'.length c') 29 64)
    obtain ⟨c0, c1, c2, _⟩ := B1
    go_enter Try.func37, Try.ntmps37
    go_wp2
    obtain ⟨_, B2, hb⟩ := HP.out
    refine bodyPost_ret (res_place rfl _ (w.heap.size + 1) rfl B2.c0 B2.c1 B2.c2) rfl ?_
    exact ⟨rfl, hb⟩

theorem ihigh_p {w : World} {n s : Bool} {l : List Nat} {A : Option Addr} {c : Nat} {b : Int} {s' : Bool} {l' : List Nat} {A' : Option Addr} {c' : Nat} {v3 v4 v5 : Value} (h : Plc 1 n s l A c b s' l' A' c') :
    Calls Try.prog 38 #[.agg #[v3, v4, v5, .bool n, .bool s, .slice A l.length c]] w fun e w' => e = .returned (.agg #[.int .i64 b, .bool s', .slice A' l'.length c']) ∧ Below w.heap.size w w' := by
  rcases h with ⟨rfl, rfl, rfl, rfl, rfl, rfl⟩ | ⟨rfl, rfl, rfl, rfl, rfl, rfl⟩
  · obtain ⟨B1, _, _⟩ := boxP w v3 v4 v5 (.bool true) (.bool s) (.slice A l.length c) (.int .i64 0) (.bool false) (.slice none 0 0) 29 64
    have HP := Lib.hid (boxP w v3 v4 v5 (.bool true) (.bool s) (.slice A l.length c) (.int .i64 1) (.bool false) (.slice none 0 0) 29 64)
    obtain ⟨c0, c1, c2, c3, c4, c5, _⟩ := B1
    go_enter Try.func38, Try.ntmps38
    go_wp2
    obtain ⟨_, B2, hb⟩ := HP.out
    refine bodyPost_ret (res_place rfl _ (w.heap.size + 1) rfl B2.c0 B2.c1 B2.c2) rfl ?_
    exact ⟨rfl, hb⟩
  · obtain ⟨B1, _, _⟩ := boxP w v3 v4 v5 (.bool false) (.bool s') (.slice A' l'.length c') (.int .i64 0) (.bool false) (.slice none 0 0) 29 64
    have HP := Lib.hid (boxP w v3 v4 v5 (.bool false) (.bool s') (.slice A' l'.length c') (.int .i64 0) (.bool s') (.slice A' l'.length c') 29 64)
    obtain ⟨c0, c1, c2, c3, c4, c5, _⟩ := B1
    go_enter Try.func38, Try.ntmps38
    go_wp2
    obtain ⟨_, B2, hb⟩ := HP.out
    refine bodyPost_ret (res_place rfl _ (w.heap.size + 1) rfl B2.c0 B2.c1 B2.c2) rfl ?_
    exact ⟨rfl, hb⟩

/-- Two boxes of three. -/
theorem boxQ (w : World) (a0 a1 a2 b0 b1 b2 : Value) (t u : TypeId) :
    Box3 ((w.alloc (.cells #[a0, a1, a2] t)).alloc (.cells #[b0, b1, b2] u)) w.heap.size a0 a1 a2 ∧
    Box3 ((w.alloc (.cells #[a0, a1, a2] t)).alloc (.cells #[b0, b1, b2] u)) (w.heap.size + 1) b0 b1 b2 ∧
    Below w.heap.size w ((w.alloc (.cells #[a0, a1, a2] t)).alloc (.cells #[b0, b1, b2] u)) := by
  have h1 := (Box3.new w a0 a1 a2 t).alloc (.cells #[b0, b1, b2] u)
  have h2 := Box3.new (w.alloc (.cells #[a0, a1, a2] t)) b0 b1 b2 u
  rw [show (w.alloc (.cells #[a0, a1, a2] t)).heap.size = w.heap.size + 1 by simp] at h2
  exact ⟨h1, h2, ((Below.refl _ w).alloc (Nat.le_refl _) _).alloc (by simp) _⟩

/-- Greater than all that comes up. -/
def bigZ : Int := 18446744073709551616 ^ 64

/-- A place's value: the number x stands for it. -/
def Pl (x : Int) (b : Int) (s : Bool) (l : List Nat) : Prop :=
  (b = 0 ∧ Nm x s l ∧ -bigZ < x ∧ x < bigZ) ∨ (b = 1 ∧ s = false ∧ l = [] ∧ x = bigZ) ∨ (b = -1 ∧ s = false ∧ l = [] ∧ x = -bigZ)
theorem bigZ_pos : 0 < bigZ := by unfold bigZ; exact Int.pow_pos (by decide)

/-- What compare answers. -/
def cmpP (b d x y : Int) : Int := bif b == d then sgn (x - y) else b - d
theorem cmpP_le {b d x y : Int} {s t : Bool} {l k : List Nat} (h : Pl x b s l) (h2 : Pl y d t k) : (cmpP b d x y ≤ 0 ↔ x ≤ y) ∧ (0 ≤ cmpP b d x y ↔ y ≤ x) := by
  have h0 := bigZ_pos
  have hs : ∀ z : Int, (sgn z ≤ 0 ↔ z ≤ 0) ∧ (0 ≤ sgn z ↔ 0 ≤ z) := fun z => by unfold sgn; split <;> (try split) <;> omega
  have hs := hs (x - y)
  unfold cmpP
  rcases h with ⟨rfl, _, h3, h4⟩ | ⟨rfl, _, _, h3⟩ | ⟨rfl, _, _, h3⟩ <;> rcases h2 with ⟨rfl, _, h5, h6⟩ | ⟨rfl, _, _, h5⟩ | ⟨rfl, _, _, h5⟩ <;> simp <;> omega

theorem icompare_p {w : World} {Z Y : Zone} {x y b d g : Int} {s t : Bool} {l k : List Nat} {A B : Option Addr} {c e : Nat} (h1 : Pl x b s l) (h2 : Pl y d t k) (hu : U64s w Z A c l) (hv : U64s w Y B e k) (hl : l.length ≤ 9000) (hl2 : k.length ≤ 9000) (hg : cmpP b d x y = g) :
    Calls Try.prog 36 #[.agg #[.int .i64 b, .bool s, .slice A l.length c], .agg #[.int .i64 d, .bool t, .slice B k.length e]] w fun e w' => e = .returned (.int .i64 g) ∧ Below w.heap.size w w' := by
  have hb : b = -1 ∨ b = 0 ∨ b = 1 := by rcases h1 with ⟨rfl, _⟩ | ⟨rfl, _⟩ | ⟨rfl, _⟩ <;> simp
  have hd : d = -1 ∨ d = 0 ∨ d = 1 := by rcases h2 with ⟨rfl, _⟩ | ⟨rfl, _⟩ | ⟨rfl, _⟩ <;> simp
  obtain ⟨B1, B2, hb0⟩ := boxQ w (.int .i64 b) (.bool s) (.slice A l.length c) (.int .i64 d) (.bool t) (.slice B k.length e) 64 64
  have Hb0 := Lib.hid hb0
  by_cases hbd : b = d
  · subst hbd
    have hN : ∃ x' y', Nm x' s l ∧ Nm y' t k ∧ sgn (x' - y') = g := by
      have e1 : cmpP b b x y = sgn (x - y) := by simp [cmpP]
      rw [e1] at hg
      have n0 : Nm 0 false [] := ⟨rfl, rfl⟩
      rcases h1 with ⟨rfl, n1, _⟩ | ⟨rfl, rfl, rfl, hx⟩ | ⟨rfl, rfl, rfl, hx⟩
      · rcases h2 with ⟨_, n2, _⟩ | ⟨h, _⟩ | ⟨h, _⟩
        · exact ⟨x, y, n1, n2, hg⟩
        · omega
        · omega
      · rcases h2 with ⟨h, _⟩ | ⟨_, rfl, rfl, hy⟩ | ⟨h, _⟩
        · omega
        · exact ⟨0, 0, n0, n0, by rw [← hg, hx, hy]; simp⟩
        · omega
      · rcases h2 with ⟨h, _⟩ | ⟨h, _⟩ | ⟨_, rfl, rfl, hy⟩
        · omega
        · omega
        · exact ⟨0, 0, n0, n0, by rw [← hg, hx, hy]; simp⟩
    obtain ⟨x', y', n1, n2, hg'⟩ := hN
    have hc := cmp_n (w := ((w.alloc (.cells #[.int .i64 b, .bool s, .slice A l.length c] 64)).alloc (.cells #[.int .i64 b, .bool t, .slice B k.length e] 64))) n1 n2 hg' (by omega) (by omega) (hu.below hb0) (hv.below hb0)
    have Hc := Lib.hid hc
    obtain ⟨a0, a1, a2, _⟩ := B1
    obtain ⟨b0, b1, b2, _⟩ := B2
    clear hc hu hv hl hl2 hg hg' n1 n2 h1 h2 hb hd hb0
    go_enter Try.func36, Try.ntmps36
    go_wp2_with fail
    refine Hc.out.mono ?_
    rintro e w1 ⟨rfl, hb1⟩
    go_wp2
    go_ret
    exact ⟨rfl, from_ Hb0.out hb1⟩
  · have e1 : g = b - d := by rw [← hg]; unfold cmpP; rw [beq_false_of_ne hbd]; rfl
    subst e1
    obtain ⟨a0, a1, a2, _⟩ := B1
    obtain ⟨b0, b1, b2, _⟩ := B2
    clear hu hv hl hl2 hg h1 h2 hb0
    rcases hb with rfl | rfl | rfl <;> rcases hd with rfl | rfl | rfl <;> first
      | exact absurd rfl hbd
      | (clear hbd
         go_enter Try.func36, Try.ntmps36
         go_wp2
         go_ret
         exact ⟨rfl, Hb0.out⟩)

end Go.Proofs.Ytennphechbngcaa

namespace Go.Proofs.Ytennphechbngcaa
open Go.RowKit
set_option linter.unusedVariables false
set_option linter.unusedSimpArgs false

theorem clone_w {w : World} {Z : Zone} {A : Option Addr} {c : Nat} {l : List Nat} (ha : U64s w Z A c l) (hb : l.length ≤ 1000000000000) :
    Calls Try.prog 78 #[.slice A l.length c] w fun e w' => ∃ A' c', e = .returned (.slice A' l.length c') ∧ U64s w' (new w.heap.size) A' c' l ∧ Below w.heap.size w w' := by
  refine (clone_any rfl ha hb).mono ?_
  rintro e w' ⟨v, rfl, hown, hb⟩
  obtain ⟨A', c', rfl⟩ := own_shape hown
  exact ⟨A', c', rfl, isU_after ha.small rfl hown (Nat.le_refl _), hb⟩

theorem boxR (w : World) (a0 a1 b0 b1 b2 : Value) (t u : TypeId) :
    Box ((w.alloc (.cells #[a0, a1] t)).alloc (.cells #[b0, b1, b2] u)) w.heap.size a0 a1 ∧
    Box3 ((w.alloc (.cells #[a0, a1] t)).alloc (.cells #[b0, b1, b2] u)) (w.heap.size + 1) b0 b1 b2 ∧
    Below w.heap.size w ((w.alloc (.cells #[a0, a1] t)).alloc (.cells #[b0, b1, b2] u)) := by
  have h1 := (Box.new w a0 a1 t).alloc (.cells #[b0, b1, b2] u)
  have h2 := Box3.new (w.alloc (.cells #[a0, a1] t)) b0 b1 b2 u
  rw [show (w.alloc (.cells #[a0, a1] t)).heap.size = w.heap.size + 1 by simp] at h2
  exact ⟨h1, h2, ((Below.refl _ w).alloc (Nat.le_refl _) _).alloc (by simp) _⟩

theorem st3 {w : World} {g i b j k m : Nat} {v x y z : Value} (h : w.cell? ⟨g, i, none⟩ = some v) (hn : b ≠ g) : (((w.setCell ⟨b, j, none⟩ x).setCell ⟨b, k, none⟩ y).setCell ⟨b, m, none⟩ z).cell? ⟨g, i, none⟩ = some v := by
  rw [World.cell?_setCell_other _ _ _ _ (fun e => hn (by injection e)), World.cell?_setCell_other _ _ _ _ (fun e => hn (by injection e)), World.cell?_setCell_other _ _ _ _ (fun e => hn (by injection e))]
  exact h

theorem inone_p {w : World} :
    Calls Try.prog 58 #[] w fun e w' => e = .returned (.agg #[.bool true, .bool false, .slice none 0 0]) ∧ Below w.heap.size w w' := by
  have hb0 := Lib.hid ((Below.refl _ w).alloc (Nat.le_refl _) (.cells #[.bool true, .bool false, .slice none 0 0] 27))
  have hB := Lib.hid (Box3.new w (.bool true) (.bool false) (.slice none 0 0) 27)
  go_enter Try.func58, Try.ntmps58
  go_wp2
  refine bodyPost_ret (res_bound rfl _ w.heap.size rfl hB.out.c0 hB.out.c1 hB.out.c2) rfl ?_
  exact ⟨rfl, hb0.out⟩

set_option maxRecDepth 100000 in
set_option maxHeartbeats 1000000 in
theorem iat_p {w : World} {Z : Zone} {s : Bool} {l : List Nat} {A : Option Addr} {c : Nat} (u1 : U64s w Z A c l) (hl : l.length ≤ 100000000000) :
    Calls Try.prog 51 #[.agg #[.bool s, .slice A l.length c]] w fun e w' => ∃ Av cv, e = .returned (.agg #[.bool false, .bool s, .slice Av l.length cv]) ∧ U64s w' (new w.heap.size) Av cv l ∧ Below w.heap.size w w' := by
  obtain ⟨bA, bR, hB0⟩ := boxR w (.bool s) (.slice A l.length c) (.bool false) (.bool false) (.slice none 0 0) 25 27
  obtain ⟨a0, a1, _, _, _⟩ := bA
  have hd : Below w.heap.size w ((w.alloc (.cells #[.bool s, .slice A l.length c] 25)).alloc (.cells #[.bool false, .bool false, .slice none 0 0] 27)).drew := hB0.drew
  have bRd := bR.below (W' := ((w.alloc (.cells #[.bool s, .slice A l.length c] 25)).alloc (.cells #[.bool false, .bool false, .slice none 0 0] 27)).drew) ((Below.refl _ _).drew)
  have s0 := (show ((w.alloc (.cells #[.bool s, .slice A l.length c] 25)).alloc (.cells #[.bool false, .bool false, .slice none 0 0] 27)).drew.cell? ⟨w.heap.size, 0, none⟩ = _ from a0)
  have s1 := (show ((w.alloc (.cells #[.bool s, .slice A l.length c] 25)).alloc (.cells #[.bool false, .bool false, .slice none 0 0] 27)).drew.cell? ⟨w.heap.size, 1, none⟩ = _ from a1)
  have C0 := Lib.hid (clone_w (u1.below hd) (by omega))
  have HB := Lib.hid hd
  clear u1 hB0 hd bR a0 a1
  go_enter Try.func51, Try.ntmps51
  go_wp2
  go_region_held3 (fun w' => w'.cell? ⟨w.heap.size, 0, none⟩ = some (.bool s) ∧ w'.cell? ⟨w.heap.size, 1, none⟩ = some (.slice A l.length c))
    (first
      | (go_keep; done)
      | exact ⟨t0, t1⟩
      | exact ⟨st3 t0 (by omega), st3 t1 (by omega)⟩)
    (first
      | (go_at_call 78; with_reducible refine C0.out.mono ?_; rintro e w1 ⟨A1, c1, rfl, u1, hc1⟩; have t0 := keepC hc1 s0; have t1 := keepC hc1 s1; obtain ⟨q0, q1, q2, f0, f1, f2, _⟩ := bRd.below hc1))
  all_goals
    have hBz := from_ HB.out hc1
    have hP := (bRd.below hc1).put hBz (by omega) (.bool false) (.bool s) (.slice A1 l.length c1)
    have hu2 := hP.keep (fun (h : _ ≤ w.heap.size + 1) => by have := bRd.lt; omega) u1
    have Hu := Lib.hid hu2
    have HP := Lib.hid hP
    clear hu2 hP
    go_wp2
    refine bodyPost_ret (res_bound rfl _ (w.heap.size + 1) rfl HP.out.c0 HP.out.c1 HP.out.c2) rfl ?_
    exact ⟨_, _, rfl, Hu.out.mono (new_le HB.out.size), HP.out.bel⟩

set_option maxRecDepth 100000 in
set_option maxHeartbeats 1000000 in
theorem ibound_p {w : World} {Z : Zone} {x b : Int} {n s : Bool} {l : List Nat} {A : Option Addr} {c : Nat} (h : Pl x b s l) (hn : (b != 0) = n) (u1 : U64s w Z A c l) (hl : l.length ≤ 100000000000) :
    Calls Try.prog 67 #[.agg #[.int .i64 b, .bool s, .slice A l.length c]] w fun e w' => ∃ Av cv, e = .returned (.agg #[.bool n, .bool s, .slice Av l.length cv]) ∧ U64s w' (new w.heap.size) Av cv l ∧ Below w.heap.size w w' := by
  obtain ⟨bA, bR, hB0⟩ := boxQ w (.int .i64 b) (.bool s) (.slice A l.length c) (.bool false) (.bool false) (.slice none 0 0) 64 27
  obtain ⟨a0, a1, a2, _, _, _, _⟩ := bA
  have HB := Lib.hid hB0
  have HR := Lib.hid bR
  by_cases hb : b = 0
  · subst hb
    obtain rfl : n = false := by rw [← hn]; rfl
    have C0 := Lib.hid (iat_p (s := s) (u1.below hB0) hl)
    clear u1 hB0 h hn bR
    go_enter Try.func67, Try.ntmps67
    go_wp2_with fail
    refine C0.out.mono ?_
    rintro e w1 ⟨Av, cv, rfl, hu, hc1⟩
    have hP := (HR.out.below hc1).put (from_ HB.out hc1) (by omega) (.bool false) (.bool s) (.slice Av l.length cv)
    have hu2 := hP.keep (fun (h : _ ≤ w.heap.size + 1) => by have := HR.out.lt; omega) hu
    have Hu := Lib.hid (hu2.mono (new_le HB.out.size))
    have HP := Lib.hid hP
    obtain ⟨q0, q1, q2, f0, f1, f2, _⟩ := HR.out.below hc1
    clear hu hu2 hP
    go_wp2
    refine bodyPost_ret (res_bound rfl _ (w.heap.size + 1) rfl HP.out.c0 HP.out.c1 HP.out.c2) rfl ?_
    exact ⟨_, _, rfl, Hu.out, HP.out.bel⟩
  · obtain rfl : n = true := by rw [← hn]; simp [hb]
    obtain ⟨rfl, rfl⟩ : s = false ∧ l = [] := by
      rcases h with ⟨h, _⟩ | ⟨_, h1, h2, _⟩ | ⟨_, h1, h2, _⟩
      · exact absurd h hb
      · exact ⟨h1, h2⟩
      · exact ⟨h1, h2⟩
    have hd : (b == 0) = false := beq_false_of_ne hb
    have hd2 : decide (b = 0) = false := decide_eq_false hb
    clear u1 hB0 h hn bR
    go_enter Try.func67, Try.ntmps67
    go_wp2_with fail
    refine (inone_p).mono ?_
    rintro e w1 ⟨rfl, hc1⟩
    have hP := (HR.out.below hc1).put (from_ HB.out hc1) (by omega) (.bool true) (.bool false) (.slice none 0 0)
    have HP := Lib.hid hP
    obtain ⟨q0, q1, q2, f0, f1, f2, _⟩ := HR.out.below hc1
    clear hP
    go_wp2
    refine bodyPost_ret (res_bound rfl _ (w.heap.size + 1) rfl HP.out.c0 HP.out.c1 HP.out.c2) rfl ?_
    obtain ⟨Av, cv, e', h'⟩ := IsU.nil (((w1.setCell ⟨w.heap.size + 1, 0, none⟩ (.bool true)).setCell ⟨w.heap.size + 1, 1, none⟩ (.bool false)).setCell ⟨w.heap.size + 1, 2, none⟩ (.slice none 0 0)) (new w.heap.size)
    injection e' with e1 e2 e3
    subst e1 e3
    exact ⟨_, _, rfl, h', HP.out.bel⟩

/-- One of two places. -/
def Pick (p : Bool) (b : Int) (s : Bool) (l : List Nat) (A : Option Addr) (c : Nat) (d : Int) (t : Bool) (k : List Nat) (B : Option Addr) (e : Nat) (rb : Int) (rs : Bool) (rl : List Nat) (rA : Option Addr) (rc : Nat) : Prop :=
  (p = true ∧ rb = b ∧ rs = s ∧ rl = l ∧ rA = A ∧ rc = c) ∨ (p = false ∧ rb = d ∧ rs = t ∧ rl = k ∧ rA = B ∧ rc = e)
theorem Pick.ex (p : Bool) (b : Int) (s : Bool) (l : List Nat) (A : Option Addr) (c : Nat) (d : Int) (t : Bool) (k : List Nat) (B : Option Addr) (e : Nat) : ∃ rb rs rl rA rc, Pick p b s l A c d t k B e rb rs rl rA rc := by
  cases p
  · exact ⟨_, _, _, _, _, Or.inr ⟨rfl, rfl, rfl, rfl, rfl, rfl⟩⟩
  · exact ⟨_, _, _, _, _, Or.inl ⟨rfl, rfl, rfl, rfl, rfl, rfl⟩⟩

/-- Three boxes of three. -/
theorem boxS (w : World) (a0 a1 a2 b0 b1 b2 r0 r1 r2 : Value) (t : TypeId) :
    Box3 (((w.alloc (.cells #[a0, a1, a2] t)).alloc (.cells #[b0, b1, b2] t)).alloc (.cells #[r0, r1, r2] t)) w.heap.size a0 a1 a2 ∧
    Box3 (((w.alloc (.cells #[a0, a1, a2] t)).alloc (.cells #[b0, b1, b2] t)).alloc (.cells #[r0, r1, r2] t)) (w.heap.size + 1) b0 b1 b2 ∧
    Box3 (((w.alloc (.cells #[a0, a1, a2] t)).alloc (.cells #[b0, b1, b2] t)).alloc (.cells #[r0, r1, r2] t)) (w.heap.size + 2) r0 r1 r2 ∧
    Below w.heap.size w (((w.alloc (.cells #[a0, a1, a2] t)).alloc (.cells #[b0, b1, b2] t)).alloc (.cells #[r0, r1, r2] t)) := by
  obtain ⟨h1, h2, hb⟩ := boxQ w a0 a1 a2 b0 b1 b2 t t
  have h3 := Box3.new ((w.alloc (.cells #[a0, a1, a2] t)).alloc (.cells #[b0, b1, b2] t)) r0 r1 r2 t
  rw [show ((w.alloc (.cells #[a0, a1, a2] t)).alloc (.cells #[b0, b1, b2] t)).heap.size = w.heap.size + 2 by simp] at h3
  exact ⟨h1.alloc _, h2.alloc _, h3, hb.alloc (by simp; omega) _⟩

set_option maxRecDepth 100000 in
set_option maxHeartbeats 1000000 in
theorem ileast_p {w : World} {Z Y : Zone} {x y b d : Int} {s t : Bool} {l k : List Nat} {A B : Option Addr} {c e : Nat} {rb : Int} {rs : Bool} {rl : List Nat} {rA : Option Addr} {rc : Nat} (h1 : Pl x b s l) (h2 : Pl y d t k) (hu : U64s w Z A c l) (hv : U64s w Y B e k) (hl : l.length ≤ 9000) (hl2 : k.length ≤ 9000) (hp : Pick (decide (x ≤ y)) b s l A c d t k B e rb rs rl rA rc) :
    Calls Try.prog 65 #[.agg #[.int .i64 b, .bool s, .slice A l.length c], .agg #[.int .i64 d, .bool t, .slice B k.length e]] w fun e w' => e = .returned (.agg #[.int .i64 rb, .bool rs, .slice rA rl.length rc]) ∧ Below w.heap.size w w' := by
  obtain ⟨bA, bB, bR, hB0⟩ := boxS w (.int .i64 b) (.bool s) (.slice A l.length c) (.int .i64 d) (.bool t) (.slice B k.length e) (.int .i64 0) (.bool false) (.slice none 0 0) 64
  have HA := Lib.hid bA
  have HBx := Lib.hid bB
  have HR := Lib.hid bR
  have HB := Lib.hid hB0
  obtain ⟨a0, a1, a2, _, _, _, _⟩ := bA
  obtain ⟨b0, b1, b2, _, _, _, _⟩ := bB
  obtain ⟨g, hg⟩ : ∃ g, cmpP b d x y = g := ⟨_, rfl⟩
  have hle := cmpP_le h1 h2
  rw [hg] at hle
  have C0 := Lib.hid (icompare_p h1 h2 (hu.below hB0) (hv.below hB0) hl hl2 hg)
  clear hu hv hB0 h1 h2 bR hg
  rcases hp with ⟨hc, rfl, rfl, rfl, rfl, rfl⟩ | ⟨hc, rfl, rfl, rfl, rfl, rfl⟩
  all_goals
    have hd : decide (g ≤ 0) = _ := (decide_eq_decide.2 hle.1).trans hc
    clear hle hc
    go_enter Try.func65, Try.ntmps65
    go_wp2_with fail
    refine C0.out.mono ?_
    rintro e w1 ⟨rfl, hc1⟩
  · have hP := (HR.out.below hc1).put (from_ HB.out hc1) (by omega) (.int .i64 rb) (.bool rs) (.slice rA rl.length rc)
    have HP := Lib.hid hP
    obtain ⟨q0, q1, q2, f0, f1, f2, _⟩ := HR.out.below hc1
    obtain ⟨p0, p1, p2, _⟩ := HA.out.below hc1
    clear hP
    go_wp2
    refine bodyPost_ret (res_place rfl _ (w.heap.size + 2) rfl HP.out.c0 HP.out.c1 HP.out.c2) rfl ?_
    exact ⟨rfl, HP.out.bel⟩
  · have hP := (HR.out.below hc1).put (from_ HB.out hc1) (by omega) (.int .i64 rb) (.bool rs) (.slice rA rl.length rc)
    have HP := Lib.hid hP
    obtain ⟨q0, q1, q2, f0, f1, f2, _⟩ := HR.out.below hc1
    obtain ⟨p0, p1, p2, _⟩ := HBx.out.below hc1
    clear hP
    go_wp2
    refine bodyPost_ret (res_place rfl _ (w.heap.size + 2) rfl HP.out.c0 HP.out.c1 HP.out.c2) rfl ?_
    exact ⟨rfl, HP.out.bel⟩

set_option maxRecDepth 100000 in
set_option maxHeartbeats 1000000 in
theorem igreatest_p {w : World} {Z Y : Zone} {x y b d : Int} {s t : Bool} {l k : List Nat} {A B : Option Addr} {c e : Nat} {rb : Int} {rs : Bool} {rl : List Nat} {rA : Option Addr} {rc : Nat} (h1 : Pl x b s l) (h2 : Pl y d t k) (hu : U64s w Z A c l) (hv : U64s w Y B e k) (hl : l.length ≤ 9000) (hl2 : k.length ≤ 9000) (hp : Pick (decide (y ≤ x)) b s l A c d t k B e rb rs rl rA rc) :
    Calls Try.prog 63 #[.agg #[.int .i64 b, .bool s, .slice A l.length c], .agg #[.int .i64 d, .bool t, .slice B k.length e]] w fun e w' => e = .returned (.agg #[.int .i64 rb, .bool rs, .slice rA rl.length rc]) ∧ Below w.heap.size w w' := by
  obtain ⟨bA, bB, bR, hB0⟩ := boxS w (.int .i64 b) (.bool s) (.slice A l.length c) (.int .i64 d) (.bool t) (.slice B k.length e) (.int .i64 0) (.bool false) (.slice none 0 0) 64
  have HA := Lib.hid bA
  have HBx := Lib.hid bB
  have HR := Lib.hid bR
  have HB := Lib.hid hB0
  obtain ⟨a0, a1, a2, _, _, _, _⟩ := bA
  obtain ⟨b0, b1, b2, _, _, _, _⟩ := bB
  obtain ⟨g, hg⟩ : ∃ g, cmpP b d x y = g := ⟨_, rfl⟩
  have hle := cmpP_le h1 h2
  rw [hg] at hle
  have C0 := Lib.hid (icompare_p h1 h2 (hu.below hB0) (hv.below hB0) hl hl2 hg)
  clear hu hv hB0 h1 h2 bR hg
  rcases hp with ⟨hc, rfl, rfl, rfl, rfl, rfl⟩ | ⟨hc, rfl, rfl, rfl, rfl, rfl⟩
  all_goals
    have hd : decide (0 ≤ g) = _ := (decide_eq_decide.2 hle.2).trans hc
    clear hle hc
    go_enter Try.func63, Try.ntmps63
    go_wp2_with fail
    refine C0.out.mono ?_
    rintro e w1 ⟨rfl, hc1⟩
  · have hP := (HR.out.below hc1).put (from_ HB.out hc1) (by omega) (.int .i64 rb) (.bool rs) (.slice rA rl.length rc)
    have HP := Lib.hid hP
    obtain ⟨q0, q1, q2, f0, f1, f2, _⟩ := HR.out.below hc1
    obtain ⟨p0, p1, p2, _⟩ := HA.out.below hc1
    clear hP
    go_wp2
    refine bodyPost_ret (res_place rfl _ (w.heap.size + 2) rfl HP.out.c0 HP.out.c1 HP.out.c2) rfl ?_
    exact ⟨rfl, HP.out.bel⟩
  · have hP := (HR.out.below hc1).put (from_ HB.out hc1) (by omega) (.int .i64 rb) (.bool rs) (.slice rA rl.length rc)
    have HP := Lib.hid hP
    obtain ⟨q0, q1, q2, f0, f1, f2, _⟩ := HR.out.below hc1
    obtain ⟨p0, p1, p2, _⟩ := HBx.out.below hc1
    clear hP
    go_wp2
    refine bodyPost_ret (res_place rfl _ (w.heap.size + 2) rfl HP.out.c0 HP.out.c1 HP.out.c2) rfl ?_
    exact ⟨rfl, HP.out.bel⟩

end Go.Proofs.Ytennphechbngcaa

namespace Go.Proofs.Ytennphechbngcaa
open Go.RowKit
set_option linter.unusedVariables false
set_option linter.unusedSimpArgs false

/-- An interval's signs and words. -/
structure Iv where
  n0 : Bool
  s0 : Bool
  l0 : List Nat
  n1 : Bool
  s1 : Bool
  l1 : List Nat
def Iv.ok (p : Iv) : Bool := okA p.n0 p.s0 p.l0 p.n1 p.s1 p.l1
def Iv.short (p : Iv) : Prop := p.l0.length ≤ 9000 ∧ p.l1.length ≤ 9000

/-- Intervals in a row of memory. -/
def GivenA (w : World) (g : Nat) (ps : List Iv) : Prop :=
  ∀ j (h : j < ps.length), ∃ A c B d, w.cell? ⟨g, j * 6, none⟩ = some (.bool ps[j].n0) ∧ w.cell? ⟨g, j * 6 + 1, none⟩ = some (.bool ps[j].s0) ∧ w.cell? ⟨g, j * 6 + 2, none⟩ = some (.slice A ps[j].l0.length c) ∧ w.cell? ⟨g, j * 6 + 3, none⟩ = some (.bool ps[j].n1) ∧ w.cell? ⟨g, j * 6 + 4, none⟩ = some (.bool ps[j].s1) ∧ w.cell? ⟨g, j * 6 + 5, none⟩ = some (.slice B ps[j].l1.length d) ∧ U64s w old A c ps[j].l0 ∧ U64s w old B d ps[j].l1
theorem GivenA.below {w w' : World} {g : Nat} {ps : List Iv} (h : GivenA w g ps) (hb : Below w.heap.size w w') : GivenA w' g ps := fun j hj => by
  obtain ⟨A, c, B, d, h0, h1, h2, h3, h4, h5, h6, h7⟩ := h j hj
  exact ⟨A, c, B, d, keepC hb h0, keepC hb h1, keepC hb h2, keepC hb h3, keepC hb h4, keepC hb h5, h6.below hb, h7.below hb⟩

def errAs (ps : List Iv) : Int := if ps.all Iv.ok = true then 0 else 8
theorem errAs_two (p q : Iv) : errAs [p, q] = if p.ok = true ∧ q.ok = true then 0 else 8 := by simp [errAs]

theorem given_twoA {w : World} {Z Y Z2 Y2 : Zone} {p q : Iv} {A B C D : Option Addr} {a b c d : Nat} {ty : TypeId} (h1 : U64s w Z A a p.l0) (h2 : U64s w Y B b p.l1) (h3 : U64s w Z2 C c q.l0) (h4 : U64s w Y2 D d q.l1) :
    GivenA (w.alloc (.cells #[.bool p.n0, .bool p.s0, .slice A p.l0.length a, .bool p.n1, .bool p.s1, .slice B p.l1.length b, .bool q.n0, .bool q.s0, .slice C q.l0.length c, .bool q.n1, .bool q.s1, .slice D q.l1.length d] ty)) w.heap.size [p, q] := fun j hj => by
  have hb0 : Below w.heap.size w (w.alloc (.cells #[.bool p.n0, .bool p.s0, .slice A p.l0.length a, .bool p.n1, .bool p.s1, .slice B p.l1.length b, .bool q.n0, .bool q.s0, .slice C q.l0.length c, .bool q.n1, .bool q.s1, .slice D q.l1.length d] ty)) := (Below.refl _ w).alloc (Nat.le_refl _) _
  match j, hj with
  | 0, _ => exact ⟨A, a, B, b, cell_newest rfl rfl, cell_newest rfl rfl, cell_newest rfl rfl, cell_newest rfl rfl, cell_newest rfl rfl, cell_newest rfl rfl, (h1.below hb0).mono (le_old _), (h2.below hb0).mono (le_old _)⟩
  | 1, _ => exact ⟨C, c, D, d, cell_newest rfl rfl, cell_newest rfl rfl, cell_newest rfl rfl, cell_newest rfl rfl, cell_newest rfl rfl, cell_newest rfl rfl, (h3.below hb0).mono (le_old _), (h4.below hb0).mono (le_old _)⟩

set_option maxRecDepth 100000 in
set_option maxHeartbeats 2000000 in
theorem ichecked_any {w : World} {g n c : Nat} {ps : List Iv} (h : GivenA w g ps) (hn : n = ps.length) (hl : ps.length ≤ 1000) (hsh : ∀ p ∈ ps, p.short) :
    Calls Try.prog 32 #[.slice (some ⟨g, 0, none⟩) n c] w fun e w' => e = .returned (.int .i64 (errAs ps)) ∧ Below w.heap.size w w' := by
  subst hn
  have Hsh := Lib.hid hsh
  clear hsh
  go_enter Try.func32, Try.ntmps32
  go_wp2
  go_loopw [8] (fun i wr => ∃ k : Nat, k ≤ ps.length ∧ i = .int .i64 k ∧ Below w.heap.size w wr ∧ Hid (∀ j (hj : j < ps.length), j < k → ps[j].ok = true)) (fun i _ => ps.length - (intOf i).toNat)
  case atStart => exact ⟨0, Nat.zero_le _, rfl, Below.refl _ _, fun j hj h => absurd h (by omega)⟩
  case round =>
    obtain ⟨k, hk, rfl, hbel, hz⟩ := hrel
    by_cases hlt : k < ps.length
    · obtain ⟨A, cA, B, cB, h0, h1, h2, h3, h4, h5, hu, hv⟩ := (h.below hbel) k hlt
      have hss := Hsh.out ps[k] (List.getElem_mem hlt)
      have hb1 : Below w.heap.size w (wr.alloc (.cells #[.bool ps[k].n0, .bool ps[k].s0, .slice A ps[k].l0.length cA, .bool ps[k].n1, .bool ps[k].s1, .slice B ps[k].l1.length cB] 29)) := hbel.alloc hbel.size _
      have hba : Below wr.heap.size wr (wr.alloc (.cells #[.bool ps[k].n0, .bool ps[k].s0, .slice A ps[k].l0.length cA, .bool ps[k].n1, .bool ps[k].s1, .slice B ps[k].l1.length cB] 29)) := (Below.refl _ wr).alloc (Nat.le_refl _) _
      have hck := icheck_any (n0 := ps[k].n0) (s0 := ps[k].s0) (n1 := ps[k].n1) (s1 := ps[k].s1) (hu.below hba) (hv.below hba) hss.1 hss.2
      have hok : ps[k].ok = true ∨ ps[k].ok = false := by cases ps[k].ok <;> simp
      have Hall : Hid (ps[k].ok = true → ∀ j (hj : j < ps.length), j < k + 1 → ps[j].ok = true) := fun hx j hj hjk => by
        rcases Nat.lt_or_ge j k with h1 | h1
        · exact hz.out j hj h1
        · obtain rfl : j = k := by omega
          exact hx
      have Hnone : Hid (ps[k].ok = false → errAs ps = 8) := fun hx => by
        unfold errAs
        rw [if_neg]
        intro hall
        have := List.all_eq_true.1 hall ps[k] (List.getElem_mem hlt)
        rw [this] at hx
        cases hx
      clear hu hv hz hba hss
      unfold Iv.ok at hok
      unfold errA at hck
      have Hok2 : Hid (ps[k].ok = okA ps[k].n0 ps[k].s0 ps[k].l0 ps[k].n1 ps[k].s1 ps[k].l1) := rfl
      generalize hp : ps[k] = p at *
      obtain ⟨n0, s0, l0, n1, s1, l1⟩ := p
      dsimp only at *
      rcases hok with hok | hok
      · rw [if_pos hok] at hck
        have Hck := Lib.hid hck
        have Hok := Lib.hid hok
        clear hck hok hp
        go_wp2_with fail
        refine Hck.out.mono ?_
        rintro e w1 ⟨rfl, hb2⟩
        have hb3 := from_ hb1 hb2
        go_wp2
        go_roundw
        case rel => exact ⟨k + 1, by omega, by go_num, hb3, Lib.hid (Hall.out (Hok2.out.trans Hok.out))⟩
        case measure => simp [intOf]; omega
      · rw [if_neg (by rw [hok]; simp)] at hck
        have Hck := Lib.hid hck
        have Hok := Lib.hid hok
        clear hck hok hp
        go_wp2_with fail
        refine Hck.out.mono ?_
        rintro e w1 ⟨rfl, hb2⟩
        have hb3 := from_ hb1 hb2
        go_wp2
        go_ret
        rw [Hnone.out (Hok2.out.trans Hok.out)]
        exact ⟨rfl, hb3⟩
    · obtain rfl : k = ps.length := by omega
      have he : errAs ps = 0 := by
        unfold errAs
        rw [if_pos]
        rw [List.all_eq_true]
        intro p hp
        obtain ⟨j, hj, rfl⟩ := List.getElem_of_mem hp
        exact hz.out j hj hj
      have He := Lib.hid he
      clear he
      go_wp2
      go_ret
      rw [He.out]
      exact ⟨rfl, hbel⟩

/-- The numbers that ends stand for. -/
def loV (n s : Bool) (l : List Nat) : Int := bif n then -bigZ else zof s l
def hiV (n s : Bool) (l : List Nat) : Int := bif n then bigZ else zof s l

theorem zof_big {s : Bool} {l : List Nat} (hs : Small l) (hl : l.length ≤ 60) : -bigZ < zof s l ∧ zof s l < bigZ := by
  have h1 := val_lt hs
  have h4 : (val l : Int) < bigZ := by
    have h5 : val l < 18446744073709551616 ^ 64 := Nat.lt_of_lt_of_le h1 (Nat.pow_le_pow_right (by decide) (by omega))
    have h6 : ((val l : Nat) : Int) < ((18446744073709551616 ^ 64 : Nat) : Int) := Int.ofNat_lt.2 h5
    rw [Int.natCast_pow] at h6
    exact h6
  unfold zof
  split <;> omega

theorem Plc.lo {n s : Bool} {l : List Nat} {A : Option Addr} {c : Nat} {b : Int} {s' : Bool} {l' : List Nat} {A' : Option Addr} {c' : Nat} (h : Plc (-1) n s l A c b s' l' A' c') (hk : okE n s l = true) (hs : Small l) (hl : l.length ≤ 60) : Pl (loV n s l) b s' l' := by
  rcases h with ⟨rfl, rfl, rfl, rfl, rfl, rfl⟩ | ⟨rfl, rfl, rfl, rfl, rfl, rfl⟩
  · exact Or.inr (Or.inr ⟨rfl, rfl, rfl, rfl⟩)
  · exact Or.inl ⟨rfl, Nm.ok hk hs, zof_big hs hl⟩
theorem Plc.hi {n s : Bool} {l : List Nat} {A : Option Addr} {c : Nat} {b : Int} {s' : Bool} {l' : List Nat} {A' : Option Addr} {c' : Nat} (h : Plc 1 n s l A c b s' l' A' c') (hk : okE n s l = true) (hs : Small l) (hl : l.length ≤ 60) : Pl (hiV n s l) b s' l' := by
  rcases h with ⟨rfl, rfl, rfl, rfl, rfl, rfl⟩ | ⟨rfl, rfl, rfl, rfl, rfl, rfl⟩
  · exact Or.inr (Or.inl ⟨rfl, rfl, rfl, rfl⟩)
  · exact Or.inl ⟨rfl, Nm.ok hk hs, zof_big hs hl⟩
theorem Plc.u64s {k : Int} {n s : Bool} {l : List Nat} {A : Option Addr} {c : Nat} {b : Int} {s' : Bool} {l' : List Nat} {A' : Option Addr} {c' : Nat} {w : World} {Z : Zone} (h : Plc k n s l A c b s' l' A' c') (hu : U64s w Z A c l) : U64s w Z A' c' l' := by
  rcases h with ⟨rfl, rfl, rfl, rfl, rfl, rfl⟩ | ⟨rfl, rfl, rfl, rfl, rfl, rfl⟩
  · exact U64s.nil _ _
  · exact hu
theorem Plc.len {k : Int} {n s : Bool} {l : List Nat} {A : Option Addr} {c : Nat} {b : Int} {s' : Bool} {l' : List Nat} {A' : Option Addr} {c' : Nat} (h : Plc k n s l A c b s' l' A' c') : l'.length ≤ l.length := by
  rcases h with ⟨rfl, rfl, rfl, rfl, rfl, rfl⟩ | ⟨rfl, rfl, rfl, rfl, rfl, rfl⟩ <;> simp

end Go.Proofs.Ytennphechbngcaa

namespace Go.Proofs.Ytennphechbngcaa
open Go.RowKit
set_option linter.unusedVariables false
set_option linter.unusedSimpArgs false

/-- Two boxes of six. -/
theorem boxT (w : World) (a0 a1 a2 a3 a4 a5 b0 b1 b2 b3 b4 b5 : Value) (t : TypeId) :
    Box6 ((w.alloc (.cells #[a0, a1, a2, a3, a4, a5] t)).alloc (.cells #[b0, b1, b2, b3, b4, b5] t)) w.heap.size a0 a1 a2 a3 a4 a5 ∧
    Box6 ((w.alloc (.cells #[a0, a1, a2, a3, a4, a5] t)).alloc (.cells #[b0, b1, b2, b3, b4, b5] t)) (w.heap.size + 1) b0 b1 b2 b3 b4 b5 ∧
    Below w.heap.size w ((w.alloc (.cells #[a0, a1, a2, a3, a4, a5] t)).alloc (.cells #[b0, b1, b2, b3, b4, b5] t)) := by
  have h1 := (Box6.new w a0 a1 a2 a3 a4 a5 t).alloc (.cells #[b0, b1, b2, b3, b4, b5] t)
  have h2 := Box6.new (w.alloc (.cells #[a0, a1, a2, a3, a4, a5] t)) b0 b1 b2 b3 b4 b5 t
  rw [show (w.alloc (.cells #[a0, a1, a2, a3, a4, a5] t)).heap.size = w.heap.size + 1 by simp] at h2
  exact ⟨h1, h2, ((Below.refl _ w).alloc (Nat.le_refl _) _).alloc (by simp) _⟩

theorem boxT_keep {W W' : World} {g h : Nat} {a0 a1 a2 a3 a4 a5 b0 b1 b2 b3 b4 b5 : Value}
    (hs : W.cell? ⟨g, 0, none⟩ = some a0 ∧ W.cell? ⟨g, 1, none⟩ = some a1 ∧ W.cell? ⟨g, 2, none⟩ = some a2 ∧ W.cell? ⟨g, 3, none⟩ = some a3 ∧ W.cell? ⟨g, 4, none⟩ = some a4 ∧ W.cell? ⟨g, 5, none⟩ = some a5 ∧ W.cell? ⟨h, 0, none⟩ = some b0 ∧ W.cell? ⟨h, 1, none⟩ = some b1 ∧ W.cell? ⟨h, 2, none⟩ = some b2 ∧ W.cell? ⟨h, 3, none⟩ = some b3 ∧ W.cell? ⟨h, 4, none⟩ = some b4 ∧ W.cell? ⟨h, 5, none⟩ = some b5) (hb : Below W.heap.size W W') :
    W'.cell? ⟨g, 0, none⟩ = some a0 ∧ W'.cell? ⟨g, 1, none⟩ = some a1 ∧ W'.cell? ⟨g, 2, none⟩ = some a2 ∧ W'.cell? ⟨g, 3, none⟩ = some a3 ∧ W'.cell? ⟨g, 4, none⟩ = some a4 ∧ W'.cell? ⟨g, 5, none⟩ = some a5 ∧ W'.cell? ⟨h, 0, none⟩ = some b0 ∧ W'.cell? ⟨h, 1, none⟩ = some b1 ∧ W'.cell? ⟨h, 2, none⟩ = some b2 ∧ W'.cell? ⟨h, 3, none⟩ = some b3 ∧ W'.cell? ⟨h, 4, none⟩ = some b4 ∧ W'.cell? ⟨h, 5, none⟩ = some b5 := by
  obtain ⟨h0, h1, h2, h3, h4, h5, h6, h7, h8, h9, h10, h11⟩ := hs
  exact ⟨keepC hb h0, keepC hb h1, keepC hb h2, keepC hb h3, keepC hb h4, keepC hb h5, keepC hb h6, keepC hb h7, keepC hb h8, keepC hb h9, keepC hb h10, keepC hb h11⟩
theorem boxT_of {W : World} {g h : Nat} {a0 a1 a2 a3 a4 a5 b0 b1 b2 b3 b4 b5 : Value} (h1 : Box6 W g a0 a1 a2 a3 a4 a5) (h2 : Box6 W h b0 b1 b2 b3 b4 b5) :
    W.cell? ⟨g, 0, none⟩ = some a0 ∧ W.cell? ⟨g, 1, none⟩ = some a1 ∧ W.cell? ⟨g, 2, none⟩ = some a2 ∧ W.cell? ⟨g, 3, none⟩ = some a3 ∧ W.cell? ⟨g, 4, none⟩ = some a4 ∧ W.cell? ⟨g, 5, none⟩ = some a5 ∧ W.cell? ⟨h, 0, none⟩ = some b0 ∧ W.cell? ⟨h, 1, none⟩ = some b1 ∧ W.cell? ⟨h, 2, none⟩ = some b2 ∧ W.cell? ⟨h, 3, none⟩ = some b3 ∧ W.cell? ⟨h, 4, none⟩ = some b4 ∧ W.cell? ⟨h, 5, none⟩ = some b5 :=
  ⟨h1.c0, h1.c1, h1.c2, h1.c3, h1.c4, h1.c5, h2.c0, h2.c1, h2.c2, h2.c3, h2.c4, h2.c5⟩

theorem okA_ends {n0 s0 n1 s1 : Bool} {l0 l1 : List Nat} (h : okA n0 s0 l0 n1 s1 l1 = true) : okE n0 s0 l0 = true ∧ okE n1 s1 l1 = true := by
  unfold okA at h
  simp only [Bool.and_eq_true] at h
  exact ⟨h.1, h.2.1⟩

set_option maxRecDepth 100000 in
set_option maxHeartbeats 2000000 in
theorem iin_good {w : World} {Z1 Z2 Z3 Z4 : Zone} {n0 s0 n1 s1 m0 t0 m1 t1 : Bool} {l0 l1 k0 k1 : List Nat} {A B C D : Option Addr} {a b c d : Nat}
    (u1 : U64s w Z1 A a l0) (u2 : U64s w Z2 B b l1) (u3 : U64s w Z3 C c k0) (u4 : U64s w Z4 D d k1) (h1 : okA n0 s0 l0 n1 s1 l1 = true) (h2 : okA m0 t0 k0 m1 t1 k1 = true)
    (q1 : l0.length ≤ 60) (q2 : l1.length ≤ 60) (q3 : k0.length ≤ 60) (q4 : k1.length ≤ 60) {r : Bool} (hr : decide (loV m0 t0 k0 ≤ loV n0 s0 l0 ∧ hiV n1 s1 l1 ≤ hiV m1 t1 k1) = r) :
    Calls Try.prog 9 #[.agg #[.bool n0, .bool s0, .slice A l0.length a, .bool n1, .bool s1, .slice B l1.length b], .agg #[.bool m0, .bool t0, .slice C k0.length c, .bool m1, .bool t1, .slice D k1.length d]] w fun e w' => e = .returned (.tuple #[.bool r, .int .i64 0]) ∧ Below w.heap.size w w' := by
  obtain ⟨bA, bB, hB0⟩ := boxT w (.bool n0) (.bool s0) (.slice A l0.length a) (.bool n1) (.bool s1) (.slice B l1.length b) (.bool m0) (.bool t0) (.slice C k0.length c) (.bool m1) (.bool t1) (.slice D k1.length d) 29
  have hb1 := hB0.alloc hB0.size (.cells #[.bool n0, .bool s0, .slice A l0.length a, .bool n1, .bool s1, .slice B l1.length b, .bool m0, .bool t0, .slice C k0.length c, .bool m1, .bool t1, .slice D k1.length d] 29)
  have hg := given_twoA (p := ⟨n0, s0, l0, n1, s1, l1⟩) (q := ⟨m0, t0, k0, m1, t1, k1⟩) (ty := 29) (u1.below hB0) (u2.below hB0) (u3.below hB0) (u4.below hB0)
  rw [show ((w.alloc (.cells #[.bool n0, .bool s0, .slice A l0.length a, .bool n1, .bool s1, .slice B l1.length b] 29)).alloc (.cells #[.bool m0, .bool t0, .slice C k0.length c, .bool m1, .bool t1, .slice D k1.length d] 29)).heap.size = w.heap.size + 2 by simp] at hg
  have hck := ichecked_any (n := 2) (c := 2) hg rfl (by simp) (by intro p hp; simp only [List.mem_cons, List.not_mem_nil, or_false] at hp; rcases hp with rfl | rfl <;> exact ⟨by dsimp only; omega, by dsimp only; omega⟩)
  rw [errAs_two, if_pos ⟨h1, h2⟩] at hck
  obtain ⟨ea1, ea2⟩ := okA_ends h1
  obtain ⟨eb1, eb2⟩ := okA_ends h2
  obtain ⟨x1, xs1, xl1, xA1, xc1, P1⟩ := Plc.ex (-1) n0 s0 l0 A a
  obtain ⟨x2, xs2, xl2, xA2, xc2, P2⟩ := Plc.ex 1 n1 s1 l1 B b
  obtain ⟨x3, xs3, xl3, xA3, xc3, P3⟩ := Plc.ex (-1) m0 t0 k0 C c
  obtain ⟨x4, xs4, xl4, xA4, xc4, P4⟩ := Plc.ex 1 m1 t1 k1 D d
  have p1 := P1.lo ea1 u1.small q1
  have p2 := P2.hi ea2 u2.small q2
  have p3 := P3.lo eb1 u3.small q3
  have p4 := P4.hi eb2 u4.small q4
  have r1 := P1.len
  have r2 := P2.len
  have r3 := P3.len
  have r4 := P4.len
  have v1 := P1.u64s u1
  have v2 := P2.u64s u2
  have v3 := P3.u64s u3
  have v4 := P4.u64s u4
  obtain ⟨g1, hg1⟩ : ∃ g, cmpP x3 x1 (loV m0 t0 k0) (loV n0 s0 l0) = g := ⟨_, rfl⟩
  obtain ⟨g2, hg2⟩ : ∃ g, cmpP x2 x4 (hiV n1 s1 l1) (hiV m1 t1 k1) = g := ⟨_, rfl⟩
  have e1 := (cmpP_le p3 p1).1
  have e2 := (cmpP_le p2 p4).1
  rw [hg1] at e1
  rw [hg2] at e2
  have L1 := Lib.hid (fun (W : World) => ilow_p (w := W) (v3 := .bool n1) (v4 := .bool s1) (v5 := .slice B l1.length b) P1)
  have L2 := Lib.hid (fun (W : World) => ihigh_p (w := W) (v3 := .bool n0) (v4 := .bool s0) (v5 := .slice A l0.length a) P2)
  have L3 := Lib.hid (fun (W : World) => ilow_p (w := W) (v3 := .bool m1) (v4 := .bool t1) (v5 := .slice D k1.length d) P3)
  have L4 := Lib.hid (fun (W : World) => ihigh_p (w := W) (v3 := .bool m0) (v4 := .bool t0) (v5 := .slice C k0.length c) P4)
  have C1 := Lib.hid (fun (W : World) (h : Below w.heap.size w W) => icompare_p p3 p1 (v3.below h) (v1.below h) (by omega) (by omega) hg1)
  have C2 := Lib.hid (fun (W : World) (h : Below w.heap.size w W) => icompare_p p2 p4 (v2.below h) (v4.below h) (by omega) (by omega) hg2)
  have Hck := Lib.hid hck
  have Hb1 := Lib.hid hb1
  have HA := Lib.hid (bA.alloc (.cells #[.bool n0, .bool s0, .slice A l0.length a, .bool n1, .bool s1, .slice B l1.length b, .bool m0, .bool t0, .slice C k0.length c, .bool m1, .bool t1, .slice D k1.length d] 29))
  have HB := Lib.hid (bB.alloc (.cells #[.bool n0, .bool s0, .slice A l0.length a, .bool n1, .bool s1, .slice B l1.length b, .bool m0, .bool t0, .slice C k0.length c, .bool m1, .bool t1, .slice D k1.length d] 29))
  obtain ⟨a0, a1, a2, a3, a4, a5, _, _, _, _, _, _, _⟩ := bA
  obtain ⟨b0, b1, b2, b3, b4, b5, _, _, _, _, _, _, _⟩ := bB
  have hd1 : decide (g1 ≤ 0) = decide (loV m0 t0 k0 ≤ loV n0 s0 l0) := decide_eq_decide.2 e1
  have hd2 : decide (g2 ≤ 0) = decide (hiV n1 s1 l1 ≤ hiV m1 t1 k1) := decide_eq_decide.2 e2
  rw [Bool.decide_and, ← hd1, ← hd2] at hr
  clear hck hb1 hB0 u1 u2 u3 u4 h1 h2 ea1 ea2 eb1 eb2 P1 P2 P3 P4 p1 p2 p3 p4 r1 r2 r3 r4 v1 v2 v3 v4 hg1 hg2 e1 e2 hd1 hd2 hg q1 q2 q3 q4
  cases hc1 : decide (g1 ≤ 0) with
  | false =>
    rw [hc1] at hr
    obtain rfl : r = false := by rw [← hr]; rfl
    have Hr := Lib.hid hr
    clear hr
    go_enter Try.func9, Try.ntmps9
    go_wp2_with fail
    refine Hck.out.mono ?_
    rintro e w1 ⟨rfl, hc⟩
    have Hc := Lib.hid (from_ Hb1.out hc).drew
    have hs := boxT_keep (boxT_of HA.out HB.out) (hc.drew)
    clear a0 a1 a2 a3 a4 a5 b0 b1 b2 b3 b4 b5
    go_wp2
    (first | go_region_with (first
      | (go_at_call 37; (first | (with_reducible refine (L1.out _).mono ?_) | (with_reducible refine (L3.out _).mono ?_)); rintro e w2 ⟨rfl, hc2⟩; have hs := boxT_keep hs hc2; obtain ⟨a0, a1, a2, a3, a4, a5, b0, b1, b2, b3, b4, b5⟩ := id hs; have Hc := Lib.hid (from_ Hc.out hc2))
      | (go_at_call 36; (first | (with_reducible refine (C1.out _ Hc.out).mono ?_) | (with_reducible refine (C2.out _ Hc.out).mono ?_)); rintro e w2 ⟨rfl, hc2⟩; have hs := boxT_keep hs hc2; have Hc := Lib.hid (from_ Hc.out hc2))) | fail)
    all_goals
      go_wp2
      go_ret2
      exact ⟨rfl, Hc.out⟩
  | true =>
    rw [hc1, Bool.true_and] at hr
    go_enter Try.func9, Try.ntmps9
    go_wp2_with fail
    refine Hck.out.mono ?_
    rintro e w1 ⟨rfl, hc⟩
    have Hc := Lib.hid (from_ Hb1.out hc).drew
    have hs := boxT_keep (boxT_of HA.out HB.out) (hc.drew)
    clear a0 a1 a2 a3 a4 a5 b0 b1 b2 b3 b4 b5
    go_wp2
    go_region_held3 (fun w' => w'.cell? ⟨w.heap.size, 0, none⟩ = some (.bool n0) ∧ w'.cell? ⟨w.heap.size, 1, none⟩ = some (.bool s0) ∧ w'.cell? ⟨w.heap.size, 2, none⟩ = some (.slice A l0.length a) ∧ w'.cell? ⟨w.heap.size, 3, none⟩ = some (.bool n1) ∧ w'.cell? ⟨w.heap.size, 4, none⟩ = some (.bool s1) ∧ w'.cell? ⟨w.heap.size, 5, none⟩ = some (.slice B l1.length b) ∧ w'.cell? ⟨w.heap.size + 1, 0, none⟩ = some (.bool m0) ∧ w'.cell? ⟨w.heap.size + 1, 1, none⟩ = some (.bool t0) ∧ w'.cell? ⟨w.heap.size + 1, 2, none⟩ = some (.slice C k0.length c) ∧ w'.cell? ⟨w.heap.size + 1, 3, none⟩ = some (.bool m1) ∧ w'.cell? ⟨w.heap.size + 1, 4, none⟩ = some (.bool t1) ∧ w'.cell? ⟨w.heap.size + 1, 5, none⟩ = some (.slice D k1.length d))
      (first
        | (go_keep; done)
        | exact hs)
      (first
        | (go_at_call 37; (first | (with_reducible refine (L1.out _).mono ?_) | (with_reducible refine (L3.out _).mono ?_)); rintro e w2 ⟨rfl, hc2⟩; have hs := boxT_keep hs hc2; have Hc := Lib.hid (from_ Hc.out hc2))
        | (go_at_call 38; (first | (with_reducible refine (L2.out _).mono ?_) | (with_reducible refine (L4.out _).mono ?_)); rintro e w2 ⟨rfl, hc2⟩; have hs := boxT_keep hs hc2; have Hc := Lib.hid (from_ Hc.out hc2))
        | (go_at_call 36; (first | (with_reducible refine (C1.out _ Hc.out).mono ?_) | (with_reducible refine (C2.out _ Hc.out).mono ?_)); rintro e w2 ⟨rfl, hc2⟩; have hs := boxT_keep hs hc2; have Hc := Lib.hid (from_ Hc.out hc2)))
    all_goals
      go_wp2
      go_ret2
      exact ⟨rfl, Hc.out⟩

end Go.Proofs.Ytennphechbngcaa

namespace Go.Proofs.Ytennphechbngcaa
open Go.RowKit
set_option linter.unusedVariables false
set_option linter.unusedSimpArgs false

theorem lo_none {n s t : Bool} {l k : List Nat} (hs : Small l) (hl : l.length ≤ 60) : loV true t k ≤ loV n s l := by
  have := zof_big (s := s) hs hl
  have := bigZ_pos
  cases n
  · show -bigZ ≤ zof s l; omega
  · show -bigZ ≤ -bigZ; omega
theorem lo_not {s t : Bool} {l k : List Nat} (hs : Small k) (hl : k.length ≤ 60) : ¬ loV false t k ≤ loV true s l := by
  have := zof_big (s := t) hs hl
  show ¬ zof t k ≤ -bigZ; omega
theorem hi_none {n s t : Bool} {l k : List Nat} (hs : Small l) (hl : l.length ≤ 60) : hiV n s l ≤ hiV true t k := by
  have := zof_big (s := s) hs hl
  cases n
  · show zof s l ≤ bigZ; omega
  · show bigZ ≤ bigZ; omega
theorem hi_not {s t : Bool} {l k : List Nat} (hs : Small k) (hl : k.length ≤ 60) : ¬ hiV true s l ≤ hiV false t k := by
  have := zof_big (s := t) hs hl
  show ¬ bigZ ≤ zof t k; omega
theorem sgn_iff (x y : Int) : sgn (x - y) ≤ 0 ↔ x ≤ y := ⟨fun h => by by_cases h' : x ≤ y; exact h'; exact absurd h (sgn_gt h'), sgn_le⟩

theorem cmp5_w {w : World} {Z Y : Zone} {s t : Bool} {l k : List Nat} {A B : Option Addr} {a b : Nat} {g : Int} (u : U64s w Z A a l) (v : U64s w Y B b k) (h1 : okI s l = true) (h2 : okI t k = true) (q1 : l.length ≤ 60) (q2 : k.length ≤ 60) (hg : sgn (zof s l - zof t k) = g) :
    Calls Try.prog 70 #[.agg #[.bool s, .slice A l.length a], .agg #[.bool t, .slice B k.length b]] w fun e w' => e = .returned (.int .i64 g) ∧ Below w.heap.size w w' := by
  have z0 := zof_len h1 u.small
  have z1 := zof_len h2 v.small
  have h := r5compared_good ((Nm.ok h1 u.small).isZ u) ((Nm.ok h2 v.small).isZ v) (by omega) (by omega)
  rw [hg] at h
  exact h

set_option maxRecDepth 100000 in
set_option maxHeartbeats 8000000 in
theorem r16inside_good {w : World} {Z1 Z2 Z3 Z4 : Zone} {n0 s0 n1 s1 m0 t0 m1 t1 : Bool} {l0 l1 k0 k1 : List Nat} {A B C D : Option Addr} {a b c d : Nat}
    (u1 : U64s w Z1 A a l0) (u2 : U64s w Z2 B b l1) (u3 : U64s w Z3 C c k0) (u4 : U64s w Z4 D d k1) (h1 : okE n0 s0 l0 = true) (h2 : okE n1 s1 l1 = true) (h3 : okE m0 t0 k0 = true) (h4 : okE m1 t1 k1 = true)
    (q1 : l0.length ≤ 60) (q2 : l1.length ≤ 60) (q3 : k0.length ≤ 60) (q4 : k1.length ≤ 60) {r : Bool} (hr : decide (loV m0 t0 k0 ≤ loV n0 s0 l0 ∧ hiV n1 s1 l1 ≤ hiV m1 t1 k1) = r) :
    Calls Try.prog 43 #[.agg #[.bool n0, .bool s0, .slice A l0.length a, .bool n1, .bool s1, .slice B l1.length b], .agg #[.bool m0, .bool t0, .slice C k0.length c, .bool m1, .bool t1, .slice D k1.length d]] w fun e w' => e = .returned (.bool r) ∧ Below w.heap.size w w' := by
  rw [Bool.decide_and] at hr
  have m1' := u1.small
  have m2' := u2.small
  have m3' := u3.small
  have m4' := u4.small
  obtain ⟨bA, bB, hB0⟩ := boxT w (.bool n0) (.bool s0) (.slice A l0.length a) (.bool n1) (.bool s1) (.slice B l1.length b) (.bool m0) (.bool t0) (.slice C k0.length c) (.bool m1) (.bool t1) (.slice D k1.length d) 29
  have Hb := Lib.hid hB0
  have hs := boxT_of bA bB
  have U1 := Lib.hid u1
  have U2 := Lib.hid u2
  have U3 := Lib.hid u3
  have U4 := Lib.hid u4
  obtain ⟨g1, hg1⟩ : ∃ g, sgn (zof t0 k0 - zof s0 l0) = g := ⟨_, rfl⟩
  obtain ⟨g2, hg2⟩ : ∃ g, sgn (zof s1 l1 - zof t1 k1) = g := ⟨_, rfl⟩
  have e1 := sgn_iff (zof t0 k0) (zof s0 l0)
  have e2 := sgn_iff (zof s1 l1) (zof t1 k1)
  rw [hg1] at e1
  rw [hg2] at e2
  clear u1 u2 u3 u4 bA bB hB0
  have HL : (m0 = true) ∨ (m0 = false ∧ n0 = true) ∨ (m0 = false ∧ n0 = false ∧ g1 ≤ 0) ∨ (m0 = false ∧ n0 = false ∧ ¬ g1 ≤ 0) := by
    cases m0 <;> cases n0 <;> by_cases h : g1 ≤ 0 <;> simp [h]
  have HH : (m1 = true) ∨ (m1 = false ∧ n1 = true) ∨ (m1 = false ∧ n1 = false ∧ g2 ≤ 0) ∨ (m1 = false ∧ n1 = false ∧ ¬ g2 ≤ 0) := by
    cases m1 <;> cases n1 <;> by_cases h : g2 ≤ 0 <;> simp [h]
  rcases HL with rfl | ⟨rfl, rfl⟩ | ⟨rfl, rfl, hc1⟩ | ⟨rfl, rfl, hc1⟩ <;> rcases HH with rfl | ⟨rfl, rfl⟩ | ⟨rfl, rfl, hc2⟩ | ⟨rfl, rfl, hc2⟩
  · have x1 : decide (loV true t0 k0 ≤ loV n0 s0 l0) = true := decide_eq_true (lo_none m1' q1)
    have x2 : decide (hiV n1 s1 l1 ≤ hiV true t1 k1) = true := decide_eq_true (hi_none m2' q2)
    obtain rfl : r = true := by rw [← hr, x1, x2]; rfl
    clear hr x1 x2 e1 e2 hg1 hg2 h1 h2 h3 h4 
    obtain ⟨a0, a1, a2, a3, a4, a5, b0, b1, b2, b3, b4, b5⟩ := id hs
    go_enter Try.func43, Try.ntmps43
    go_wp2
    go_ret
    exact ⟨rfl, Hb.out⟩
  · have x1 : decide (loV true t0 k0 ≤ loV n0 s0 l0) = true := decide_eq_true (lo_none m1' q1)
    have x2 : decide (hiV true s1 l1 ≤ hiV false t1 k1) = false := decide_eq_false (hi_not m4' q4)
    obtain rfl : r = false := by rw [← hr, x1, x2]; rfl
    clear hr x1 x2 e1 e2 hg1 hg2 h1 h2 h3 h4 
    obtain ⟨a0, a1, a2, a3, a4, a5, b0, b1, b2, b3, b4, b5⟩ := id hs
    go_enter Try.func43, Try.ntmps43
    go_wp2
    go_ret
    exact ⟨rfl, Hb.out⟩
  · have x1 : decide (loV true t0 k0 ≤ loV n0 s0 l0) = true := decide_eq_true (lo_none m1' q1)
    have x2 : decide (hiV false s1 l1 ≤ hiV false t1 k1) = true := decide_eq_true (e2.1 hc2)
    obtain rfl : r = true := by rw [← hr, x1, x2]; rfl
    have C2 := Lib.hid (fun (W : World) (h : Below w.heap.size w W) => cmp5_w (U2.out.below h) (U4.out.below h) h2 h4 q2 q4 hg2)
    have d2 : decide (g2 ≤ 0) = true := decide_eq_true hc2
    clear hr x1 x2 e1 e2 hg1 hg2 h1 h2 h3 h4 hc2
    obtain ⟨a0, a1, a2, a3, a4, a5, b0, b1, b2, b3, b4, b5⟩ := id hs
    go_enter Try.func43, Try.ntmps43
    go_wp2_with fail
    refine (C2.out _ Hb.out).mono ?_
    rintro e w1 ⟨rfl, hc⟩
    have hs := boxT_keep hs hc
    have Hb := Lib.hid (from_ Hb.out hc)
    clear a0 a1 a2 a3 a4 a5 b0 b1 b2 b3 b4 b5
    obtain ⟨a0, a1, a2, a3, a4, a5, b0, b1, b2, b3, b4, b5⟩ := id hs
    go_wp2
    go_ret
    exact ⟨rfl, Hb.out⟩
  · have x1 : decide (loV true t0 k0 ≤ loV n0 s0 l0) = true := decide_eq_true (lo_none m1' q1)
    have x2 : decide (hiV false s1 l1 ≤ hiV false t1 k1) = false := decide_eq_false (fun h => hc2 (e2.2 h))
    obtain rfl : r = false := by rw [← hr, x1, x2]; rfl
    have C2 := Lib.hid (fun (W : World) (h : Below w.heap.size w W) => cmp5_w (U2.out.below h) (U4.out.below h) h2 h4 q2 q4 hg2)
    have d2 : decide (g2 ≤ 0) = false := decide_eq_false hc2
    clear hr x1 x2 e1 e2 hg1 hg2 h1 h2 h3 h4 hc2
    obtain ⟨a0, a1, a2, a3, a4, a5, b0, b1, b2, b3, b4, b5⟩ := id hs
    go_enter Try.func43, Try.ntmps43
    go_wp2_with fail
    refine (C2.out _ Hb.out).mono ?_
    rintro e w1 ⟨rfl, hc⟩
    have hs := boxT_keep hs hc
    have Hb := Lib.hid (from_ Hb.out hc)
    clear a0 a1 a2 a3 a4 a5 b0 b1 b2 b3 b4 b5
    obtain ⟨a0, a1, a2, a3, a4, a5, b0, b1, b2, b3, b4, b5⟩ := id hs
    go_wp2
    go_ret
    exact ⟨rfl, Hb.out⟩
  · have x1 : decide (loV false t0 k0 ≤ loV true s0 l0) = false := decide_eq_false (lo_not m3' q3)
    have x2 : decide (hiV n1 s1 l1 ≤ hiV true t1 k1) = true := decide_eq_true (hi_none m2' q2)
    obtain rfl : r = false := by rw [← hr, x1, x2]; rfl
    clear hr x1 x2 e1 e2 hg1 hg2 h1 h2 h3 h4 
    obtain ⟨a0, a1, a2, a3, a4, a5, b0, b1, b2, b3, b4, b5⟩ := id hs
    go_enter Try.func43, Try.ntmps43
    go_wp2
    go_ret
    exact ⟨rfl, Hb.out⟩
  · have x1 : decide (loV false t0 k0 ≤ loV true s0 l0) = false := decide_eq_false (lo_not m3' q3)
    have x2 : decide (hiV true s1 l1 ≤ hiV false t1 k1) = false := decide_eq_false (hi_not m4' q4)
    obtain rfl : r = false := by rw [← hr, x1, x2]; rfl
    clear hr x1 x2 e1 e2 hg1 hg2 h1 h2 h3 h4 
    obtain ⟨a0, a1, a2, a3, a4, a5, b0, b1, b2, b3, b4, b5⟩ := id hs
    go_enter Try.func43, Try.ntmps43
    go_wp2
    go_ret
    exact ⟨rfl, Hb.out⟩
  · have x1 : decide (loV false t0 k0 ≤ loV true s0 l0) = false := decide_eq_false (lo_not m3' q3)
    have x2 : decide (hiV false s1 l1 ≤ hiV false t1 k1) = true := decide_eq_true (e2.1 hc2)
    obtain rfl : r = false := by rw [← hr, x1, x2]; rfl
    have C2 := Lib.hid (fun (W : World) (h : Below w.heap.size w W) => cmp5_w (U2.out.below h) (U4.out.below h) h2 h4 q2 q4 hg2)
    have d2 : decide (g2 ≤ 0) = true := decide_eq_true hc2
    clear hr x1 x2 e1 e2 hg1 hg2 h1 h2 h3 h4 hc2
    obtain ⟨a0, a1, a2, a3, a4, a5, b0, b1, b2, b3, b4, b5⟩ := id hs
    go_enter Try.func43, Try.ntmps43
    go_wp2_with fail
    refine (C2.out _ Hb.out).mono ?_
    rintro e w1 ⟨rfl, hc⟩
    have hs := boxT_keep hs hc
    have Hb := Lib.hid (from_ Hb.out hc)
    clear a0 a1 a2 a3 a4 a5 b0 b1 b2 b3 b4 b5
    obtain ⟨a0, a1, a2, a3, a4, a5, b0, b1, b2, b3, b4, b5⟩ := id hs
    go_wp2
    go_ret
    exact ⟨rfl, Hb.out⟩
  · have x1 : decide (loV false t0 k0 ≤ loV true s0 l0) = false := decide_eq_false (lo_not m3' q3)
    have x2 : decide (hiV false s1 l1 ≤ hiV false t1 k1) = false := decide_eq_false (fun h => hc2 (e2.2 h))
    obtain rfl : r = false := by rw [← hr, x1, x2]; rfl
    have C2 := Lib.hid (fun (W : World) (h : Below w.heap.size w W) => cmp5_w (U2.out.below h) (U4.out.below h) h2 h4 q2 q4 hg2)
    have d2 : decide (g2 ≤ 0) = false := decide_eq_false hc2
    clear hr x1 x2 e1 e2 hg1 hg2 h1 h2 h3 h4 hc2
    obtain ⟨a0, a1, a2, a3, a4, a5, b0, b1, b2, b3, b4, b5⟩ := id hs
    go_enter Try.func43, Try.ntmps43
    go_wp2_with fail
    refine (C2.out _ Hb.out).mono ?_
    rintro e w1 ⟨rfl, hc⟩
    have hs := boxT_keep hs hc
    have Hb := Lib.hid (from_ Hb.out hc)
    clear a0 a1 a2 a3 a4 a5 b0 b1 b2 b3 b4 b5
    obtain ⟨a0, a1, a2, a3, a4, a5, b0, b1, b2, b3, b4, b5⟩ := id hs
    go_wp2
    go_ret
    exact ⟨rfl, Hb.out⟩
  · have x1 : decide (loV false t0 k0 ≤ loV false s0 l0) = true := decide_eq_true (e1.1 hc1)
    have x2 : decide (hiV n1 s1 l1 ≤ hiV true t1 k1) = true := decide_eq_true (hi_none m2' q2)
    obtain rfl : r = true := by rw [← hr, x1, x2]; rfl
    have C1 := Lib.hid (fun (W : World) (h : Below w.heap.size w W) => cmp5_w (U3.out.below h) (U1.out.below h) h3 h1 q3 q1 hg1)
    have d1 : decide (g1 ≤ 0) = true := decide_eq_true hc1
    clear hr x1 x2 e1 e2 hg1 hg2 h1 h2 h3 h4 hc1 
    obtain ⟨a0, a1, a2, a3, a4, a5, b0, b1, b2, b3, b4, b5⟩ := id hs
    go_enter Try.func43, Try.ntmps43
    go_wp2_with fail
    refine (C1.out _ Hb.out).mono ?_
    rintro e w1 ⟨rfl, hc⟩
    have hs := boxT_keep hs hc
    have Hb := Lib.hid (from_ Hb.out hc)
    clear a0 a1 a2 a3 a4 a5 b0 b1 b2 b3 b4 b5
    obtain ⟨a0, a1, a2, a3, a4, a5, b0, b1, b2, b3, b4, b5⟩ := id hs
    go_wp2
    go_ret
    exact ⟨rfl, Hb.out⟩
  · have x1 : decide (loV false t0 k0 ≤ loV false s0 l0) = true := decide_eq_true (e1.1 hc1)
    have x2 : decide (hiV true s1 l1 ≤ hiV false t1 k1) = false := decide_eq_false (hi_not m4' q4)
    obtain rfl : r = false := by rw [← hr, x1, x2]; rfl
    have C1 := Lib.hid (fun (W : World) (h : Below w.heap.size w W) => cmp5_w (U3.out.below h) (U1.out.below h) h3 h1 q3 q1 hg1)
    have d1 : decide (g1 ≤ 0) = true := decide_eq_true hc1
    clear hr x1 x2 e1 e2 hg1 hg2 h1 h2 h3 h4 hc1 
    obtain ⟨a0, a1, a2, a3, a4, a5, b0, b1, b2, b3, b4, b5⟩ := id hs
    go_enter Try.func43, Try.ntmps43
    go_wp2_with fail
    refine (C1.out _ Hb.out).mono ?_
    rintro e w1 ⟨rfl, hc⟩
    have hs := boxT_keep hs hc
    have Hb := Lib.hid (from_ Hb.out hc)
    clear a0 a1 a2 a3 a4 a5 b0 b1 b2 b3 b4 b5
    obtain ⟨a0, a1, a2, a3, a4, a5, b0, b1, b2, b3, b4, b5⟩ := id hs
    go_wp2
    go_ret
    exact ⟨rfl, Hb.out⟩
  · have x1 : decide (loV false t0 k0 ≤ loV false s0 l0) = true := decide_eq_true (e1.1 hc1)
    have x2 : decide (hiV false s1 l1 ≤ hiV false t1 k1) = true := decide_eq_true (e2.1 hc2)
    obtain rfl : r = true := by rw [← hr, x1, x2]; rfl
    have C1 := Lib.hid (fun (W : World) (h : Below w.heap.size w W) => cmp5_w (U3.out.below h) (U1.out.below h) h3 h1 q3 q1 hg1)
    have d1 : decide (g1 ≤ 0) = true := decide_eq_true hc1
    have C2 := Lib.hid (fun (W : World) (h : Below w.heap.size w W) => cmp5_w (U2.out.below h) (U4.out.below h) h2 h4 q2 q4 hg2)
    have d2 : decide (g2 ≤ 0) = true := decide_eq_true hc2
    clear hr x1 x2 e1 e2 hg1 hg2 h1 h2 h3 h4 hc1 hc2
    obtain ⟨a0, a1, a2, a3, a4, a5, b0, b1, b2, b3, b4, b5⟩ := id hs
    go_enter Try.func43, Try.ntmps43
    go_wp2_with fail
    refine (C1.out _ Hb.out).mono ?_
    rintro e w1 ⟨rfl, hc⟩
    have hs := boxT_keep hs hc
    have Hb := Lib.hid (from_ Hb.out hc)
    clear a0 a1 a2 a3 a4 a5 b0 b1 b2 b3 b4 b5
    obtain ⟨a0, a1, a2, a3, a4, a5, b0, b1, b2, b3, b4, b5⟩ := id hs
    go_wp2_with fail
    refine (C2.out _ Hb.out).mono ?_
    rintro e w1 ⟨rfl, hc⟩
    have hs := boxT_keep hs hc
    have Hb := Lib.hid (from_ Hb.out hc)
    clear a0 a1 a2 a3 a4 a5 b0 b1 b2 b3 b4 b5
    obtain ⟨a0, a1, a2, a3, a4, a5, b0, b1, b2, b3, b4, b5⟩ := id hs
    go_wp2
    go_ret
    exact ⟨rfl, Hb.out⟩
  · have x1 : decide (loV false t0 k0 ≤ loV false s0 l0) = true := decide_eq_true (e1.1 hc1)
    have x2 : decide (hiV false s1 l1 ≤ hiV false t1 k1) = false := decide_eq_false (fun h => hc2 (e2.2 h))
    obtain rfl : r = false := by rw [← hr, x1, x2]; rfl
    have C1 := Lib.hid (fun (W : World) (h : Below w.heap.size w W) => cmp5_w (U3.out.below h) (U1.out.below h) h3 h1 q3 q1 hg1)
    have d1 : decide (g1 ≤ 0) = true := decide_eq_true hc1
    have C2 := Lib.hid (fun (W : World) (h : Below w.heap.size w W) => cmp5_w (U2.out.below h) (U4.out.below h) h2 h4 q2 q4 hg2)
    have d2 : decide (g2 ≤ 0) = false := decide_eq_false hc2
    clear hr x1 x2 e1 e2 hg1 hg2 h1 h2 h3 h4 hc1 hc2
    obtain ⟨a0, a1, a2, a3, a4, a5, b0, b1, b2, b3, b4, b5⟩ := id hs
    go_enter Try.func43, Try.ntmps43
    go_wp2_with fail
    refine (C1.out _ Hb.out).mono ?_
    rintro e w1 ⟨rfl, hc⟩
    have hs := boxT_keep hs hc
    have Hb := Lib.hid (from_ Hb.out hc)
    clear a0 a1 a2 a3 a4 a5 b0 b1 b2 b3 b4 b5
    obtain ⟨a0, a1, a2, a3, a4, a5, b0, b1, b2, b3, b4, b5⟩ := id hs
    go_wp2_with fail
    refine (C2.out _ Hb.out).mono ?_
    rintro e w1 ⟨rfl, hc⟩
    have hs := boxT_keep hs hc
    have Hb := Lib.hid (from_ Hb.out hc)
    clear a0 a1 a2 a3 a4 a5 b0 b1 b2 b3 b4 b5
    obtain ⟨a0, a1, a2, a3, a4, a5, b0, b1, b2, b3, b4, b5⟩ := id hs
    go_wp2
    go_ret
    exact ⟨rfl, Hb.out⟩
  · have x1 : decide (loV false t0 k0 ≤ loV false s0 l0) = false := decide_eq_false (fun h => hc1 (e1.2 h))
    have x2 : decide (hiV n1 s1 l1 ≤ hiV true t1 k1) = true := decide_eq_true (hi_none m2' q2)
    obtain rfl : r = false := by rw [← hr, x1, x2]; rfl
    have C1 := Lib.hid (fun (W : World) (h : Below w.heap.size w W) => cmp5_w (U3.out.below h) (U1.out.below h) h3 h1 q3 q1 hg1)
    have d1 : decide (g1 ≤ 0) = false := decide_eq_false hc1
    clear hr x1 x2 e1 e2 hg1 hg2 h1 h2 h3 h4 hc1 
    obtain ⟨a0, a1, a2, a3, a4, a5, b0, b1, b2, b3, b4, b5⟩ := id hs
    go_enter Try.func43, Try.ntmps43
    go_wp2_with fail
    refine (C1.out _ Hb.out).mono ?_
    rintro e w1 ⟨rfl, hc⟩
    have hs := boxT_keep hs hc
    have Hb := Lib.hid (from_ Hb.out hc)
    clear a0 a1 a2 a3 a4 a5 b0 b1 b2 b3 b4 b5
    obtain ⟨a0, a1, a2, a3, a4, a5, b0, b1, b2, b3, b4, b5⟩ := id hs
    go_wp2
    go_ret
    exact ⟨rfl, Hb.out⟩
  · have x1 : decide (loV false t0 k0 ≤ loV false s0 l0) = false := decide_eq_false (fun h => hc1 (e1.2 h))
    have x2 : decide (hiV true s1 l1 ≤ hiV false t1 k1) = false := decide_eq_false (hi_not m4' q4)
    obtain rfl : r = false := by rw [← hr, x1, x2]; rfl
    have C1 := Lib.hid (fun (W : World) (h : Below w.heap.size w W) => cmp5_w (U3.out.below h) (U1.out.below h) h3 h1 q3 q1 hg1)
    have d1 : decide (g1 ≤ 0) = false := decide_eq_false hc1
    clear hr x1 x2 e1 e2 hg1 hg2 h1 h2 h3 h4 hc1 
    obtain ⟨a0, a1, a2, a3, a4, a5, b0, b1, b2, b3, b4, b5⟩ := id hs
    go_enter Try.func43, Try.ntmps43
    go_wp2_with fail
    refine (C1.out _ Hb.out).mono ?_
    rintro e w1 ⟨rfl, hc⟩
    have hs := boxT_keep hs hc
    have Hb := Lib.hid (from_ Hb.out hc)
    clear a0 a1 a2 a3 a4 a5 b0 b1 b2 b3 b4 b5
    obtain ⟨a0, a1, a2, a3, a4, a5, b0, b1, b2, b3, b4, b5⟩ := id hs
    go_wp2
    go_ret
    exact ⟨rfl, Hb.out⟩
  · have x1 : decide (loV false t0 k0 ≤ loV false s0 l0) = false := decide_eq_false (fun h => hc1 (e1.2 h))
    have x2 : decide (hiV false s1 l1 ≤ hiV false t1 k1) = true := decide_eq_true (e2.1 hc2)
    obtain rfl : r = false := by rw [← hr, x1, x2]; rfl
    have C1 := Lib.hid (fun (W : World) (h : Below w.heap.size w W) => cmp5_w (U3.out.below h) (U1.out.below h) h3 h1 q3 q1 hg1)
    have d1 : decide (g1 ≤ 0) = false := decide_eq_false hc1
    have C2 := Lib.hid (fun (W : World) (h : Below w.heap.size w W) => cmp5_w (U2.out.below h) (U4.out.below h) h2 h4 q2 q4 hg2)
    have d2 : decide (g2 ≤ 0) = true := decide_eq_true hc2
    clear hr x1 x2 e1 e2 hg1 hg2 h1 h2 h3 h4 hc1 hc2
    obtain ⟨a0, a1, a2, a3, a4, a5, b0, b1, b2, b3, b4, b5⟩ := id hs
    go_enter Try.func43, Try.ntmps43
    go_wp2_with fail
    refine (C1.out _ Hb.out).mono ?_
    rintro e w1 ⟨rfl, hc⟩
    have hs := boxT_keep hs hc
    have Hb := Lib.hid (from_ Hb.out hc)
    clear a0 a1 a2 a3 a4 a5 b0 b1 b2 b3 b4 b5
    obtain ⟨a0, a1, a2, a3, a4, a5, b0, b1, b2, b3, b4, b5⟩ := id hs
    go_wp2_with fail
    refine (C2.out _ Hb.out).mono ?_
    rintro e w1 ⟨rfl, hc⟩
    have hs := boxT_keep hs hc
    have Hb := Lib.hid (from_ Hb.out hc)
    clear a0 a1 a2 a3 a4 a5 b0 b1 b2 b3 b4 b5
    obtain ⟨a0, a1, a2, a3, a4, a5, b0, b1, b2, b3, b4, b5⟩ := id hs
    go_wp2
    go_ret
    exact ⟨rfl, Hb.out⟩
  · have x1 : decide (loV false t0 k0 ≤ loV false s0 l0) = false := decide_eq_false (fun h => hc1 (e1.2 h))
    have x2 : decide (hiV false s1 l1 ≤ hiV false t1 k1) = false := decide_eq_false (fun h => hc2 (e2.2 h))
    obtain rfl : r = false := by rw [← hr, x1, x2]; rfl
    have C1 := Lib.hid (fun (W : World) (h : Below w.heap.size w W) => cmp5_w (U3.out.below h) (U1.out.below h) h3 h1 q3 q1 hg1)
    have d1 : decide (g1 ≤ 0) = false := decide_eq_false hc1
    have C2 := Lib.hid (fun (W : World) (h : Below w.heap.size w W) => cmp5_w (U2.out.below h) (U4.out.below h) h2 h4 q2 q4 hg2)
    have d2 : decide (g2 ≤ 0) = false := decide_eq_false hc2
    clear hr x1 x2 e1 e2 hg1 hg2 h1 h2 h3 h4 hc1 hc2
    obtain ⟨a0, a1, a2, a3, a4, a5, b0, b1, b2, b3, b4, b5⟩ := id hs
    go_enter Try.func43, Try.ntmps43
    go_wp2_with fail
    refine (C1.out _ Hb.out).mono ?_
    rintro e w1 ⟨rfl, hc⟩
    have hs := boxT_keep hs hc
    have Hb := Lib.hid (from_ Hb.out hc)
    clear a0 a1 a2 a3 a4 a5 b0 b1 b2 b3 b4 b5
    obtain ⟨a0, a1, a2, a3, a4, a5, b0, b1, b2, b3, b4, b5⟩ := id hs
    go_wp2_with fail
    refine (C2.out _ Hb.out).mono ?_
    rintro e w1 ⟨rfl, hc⟩
    have hs := boxT_keep hs hc
    have Hb := Lib.hid (from_ Hb.out hc)
    clear a0 a1 a2 a3 a4 a5 b0 b1 b2 b3 b4 b5
    obtain ⟨a0, a1, a2, a3, a4, a5, b0, b1, b2, b3, b4, b5⟩ := id hs
    go_wp2
    go_ret
    exact ⟨rfl, Hb.out⟩

end Go.Proofs.Ytennphechbngcaa

namespace Go.Proofs.Ytennphechbngcaa
open Go.RowKit
set_option linter.unusedVariables false
set_option linter.unusedSimpArgs false

/-- The error of two. -/
def errA2 (p q : Bool) : Int := if p = true ∧ q = true then 0 else 8

set_option maxRecDepth 100000 in
set_option maxHeartbeats 2000000 in
theorem r16two_any {w : World} {Z1 Z2 Z3 Z4 : Zone} {n0 s0 n1 s1 m0 t0 m1 t1 : Bool} {l0 l1 k0 k1 : List Nat} {A B C D : Option Addr} {a b c d : Nat}
    (u1 : U64s w Z1 A a l0) (u2 : U64s w Z2 B b l1) (u3 : U64s w Z3 C c k0) (u4 : U64s w Z4 D d k1) (q1 : l0.length ≤ 60) (q2 : l1.length ≤ 60) (q3 : k0.length ≤ 60) (q4 : k1.length ≤ 60) {p q : Bool} (hp : okA n0 s0 l0 n1 s1 l1 = p) (hq : okA m0 t0 k0 m1 t1 k1 = q) :
    Calls Try.prog 40 #[.agg #[.bool n0, .bool s0, .slice A l0.length a, .bool n1, .bool s1, .slice B l1.length b], .agg #[.bool m0, .bool t0, .slice C k0.length c, .bool m1, .bool t1, .slice D k1.length d]] w fun e w' => e = .returned (.int .i64 (errA2 p q)) ∧ Below w.heap.size w w' := by
  obtain ⟨bA, bB, hB0⟩ := boxT w (.bool n0) (.bool s0) (.slice A l0.length a) (.bool n1) (.bool s1) (.slice B l1.length b) (.bool m0) (.bool t0) (.slice C k0.length c) (.bool m1) (.bool t1) (.slice D k1.length d) 29
  have Hb := Lib.hid hB0
  have hs := boxT_of bA bB
  have M1 := Lib.hid (fun (W : World) (h : Below w.heap.size w W) => r16may_any (n0 := n0) (s0 := s0) (n1 := n1) (s1 := s1) (u1.below h) (u2.below h) (by omega) (by omega))
  have M2 := Lib.hid (fun (W : World) (h : Below w.heap.size w W) => r16may_any (n0 := m0) (s0 := t0) (n1 := m1) (s1 := t1) (u3.below h) (u4.below h) (by omega) (by omega))
  rw [hp] at M1
  rw [hq] at M2
  clear u1 u2 u3 u4 bA bB hB0 hp hq
  cases p with
  | false =>
    rw [show errA2 false q = 8 by simp [errA2]]
    obtain ⟨a0, a1, a2, a3, a4, a5, b0, b1, b2, b3, b4, b5⟩ := id hs
    go_enter Try.func40, Try.ntmps40
    go_wp2_with fail
    refine (M1.out _ Hb.out).mono ?_
    rintro e w1 ⟨rfl, hc⟩
    have hs := boxT_keep hs hc
    have Hb := Lib.hid (from_ Hb.out hc)
    clear a0 a1 a2 a3 a4 a5 b0 b1 b2 b3 b4 b5
    obtain ⟨a0, a1, a2, a3, a4, a5, b0, b1, b2, b3, b4, b5⟩ := id hs
    go_wp2
    go_ret
    exact ⟨rfl, Hb.out⟩
  | true =>
    cases q with
    | false =>
      rw [show errA2 true false = 8 from rfl]
      obtain ⟨a0, a1, a2, a3, a4, a5, b0, b1, b2, b3, b4, b5⟩ := id hs
      go_enter Try.func40, Try.ntmps40
      go_wp2_with fail
      refine (M1.out _ Hb.out).mono ?_
      rintro e w1 ⟨rfl, hc⟩
      have hs := boxT_keep hs hc
      have Hb := Lib.hid (from_ Hb.out hc)
      clear a0 a1 a2 a3 a4 a5 b0 b1 b2 b3 b4 b5
      obtain ⟨a0, a1, a2, a3, a4, a5, b0, b1, b2, b3, b4, b5⟩ := id hs
      go_wp2_with fail
      refine (M2.out _ Hb.out).mono ?_
      rintro e w1 ⟨rfl, hc⟩
      have hs := boxT_keep hs hc
      have Hb := Lib.hid (from_ Hb.out hc)
      clear a0 a1 a2 a3 a4 a5 b0 b1 b2 b3 b4 b5
      obtain ⟨a0, a1, a2, a3, a4, a5, b0, b1, b2, b3, b4, b5⟩ := id hs
      go_wp2
      go_ret
      exact ⟨rfl, Hb.out⟩
    | true =>
      rw [show errA2 true true = 0 from rfl]
      obtain ⟨a0, a1, a2, a3, a4, a5, b0, b1, b2, b3, b4, b5⟩ := id hs
      go_enter Try.func40, Try.ntmps40
      go_wp2_with fail
      refine (M1.out _ Hb.out).mono ?_
      rintro e w1 ⟨rfl, hc⟩
      have hs := boxT_keep hs hc
      have Hb := Lib.hid (from_ Hb.out hc)
      clear a0 a1 a2 a3 a4 a5 b0 b1 b2 b3 b4 b5
      obtain ⟨a0, a1, a2, a3, a4, a5, b0, b1, b2, b3, b4, b5⟩ := id hs
      go_wp2_with fail
      refine (M2.out _ Hb.out).mono ?_
      rintro e w1 ⟨rfl, hc⟩
      have hs := boxT_keep hs hc
      have Hb := Lib.hid (from_ Hb.out hc)
      clear a0 a1 a2 a3 a4 a5 b0 b1 b2 b3 b4 b5
      obtain ⟨a0, a1, a2, a3, a4, a5, b0, b1, b2, b3, b4, b5⟩ := id hs
      go_wp2
      go_ret
      exact ⟨rfl, Hb.out⟩

set_option maxRecDepth 100000 in
set_option maxHeartbeats 2000000 in
theorem r16in_good {w : World} {Z1 Z2 Z3 Z4 : Zone} {n0 s0 n1 s1 m0 t0 m1 t1 : Bool} {l0 l1 k0 k1 : List Nat} {A B C D : Option Addr} {a b c d : Nat}
    (u1 : U64s w Z1 A a l0) (u2 : U64s w Z2 B b l1) (u3 : U64s w Z3 C c k0) (u4 : U64s w Z4 D d k1) (h1 : okA n0 s0 l0 n1 s1 l1 = true) (h2 : okA m0 t0 k0 m1 t1 k1 = true)
    (q1 : l0.length ≤ 60) (q2 : l1.length ≤ 60) (q3 : k0.length ≤ 60) (q4 : k1.length ≤ 60) {r : Bool} (hr : decide (loV m0 t0 k0 ≤ loV n0 s0 l0 ∧ hiV n1 s1 l1 ≤ hiV m1 t1 k1) = r) :
    Calls Try.prog 13 #[.agg #[.bool n0, .bool s0, .slice A l0.length a, .bool n1, .bool s1, .slice B l1.length b], .agg #[.bool m0, .bool t0, .slice C k0.length c, .bool m1, .bool t1, .slice D k1.length d]] w fun e w' => e = .returned (.tuple #[.bool r, .int .i64 0]) ∧ Below w.heap.size w w' := by
  obtain ⟨bA, bB, hB0⟩ := boxT w (.bool n0) (.bool s0) (.slice A l0.length a) (.bool n1) (.bool s1) (.slice B l1.length b) (.bool m0) (.bool t0) (.slice C k0.length c) (.bool m1) (.bool t1) (.slice D k1.length d) 29
  have Hb := Lib.hid hB0
  have hs := boxT_of bA bB
  obtain ⟨ea1, ea2⟩ := okA_ends h1
  obtain ⟨eb1, eb2⟩ := okA_ends h2
  have T1 := Lib.hid (fun (W : World) (h : Below w.heap.size w W) => r16two_any (u1.below h) (u2.below h) (u3.below h) (u4.below h) q1 q2 q3 q4 h1 h2)
  have T2 := Lib.hid (fun (W : World) (h : Below w.heap.size w W) => r16inside_good (u1.below h) (u2.below h) (u3.below h) (u4.below h) ea1 ea2 eb1 eb2 q1 q2 q3 q4 hr)
  rw [show errA2 true true = 0 from rfl] at T1
  clear u1 u2 u3 u4 bA bB hB0 h1 h2 ea1 ea2 eb1 eb2 hr
  obtain ⟨a0, a1, a2, a3, a4, a5, b0, b1, b2, b3, b4, b5⟩ := id hs
  go_enter Try.func13, Try.ntmps13
  go_wp2_with fail
  refine (T1.out _ Hb.out).mono ?_
  rintro e w1 ⟨rfl, hc⟩
  have hs := boxT_keep hs hc
  have Hb := Lib.hid (from_ Hb.out hc)
  clear a0 a1 a2 a3 a4 a5 b0 b1 b2 b3 b4 b5
  obtain ⟨a0, a1, a2, a3, a4, a5, b0, b1, b2, b3, b4, b5⟩ := id hs
  go_wp2_with fail
  refine (T2.out _ Hb.out).mono ?_
  rintro e w1 ⟨rfl, hc⟩
  have hs := boxT_keep hs hc
  have Hb := Lib.hid (from_ Hb.out hc)
  clear a0 a1 a2 a3 a4 a5 b0 b1 b2 b3 b4 b5
  obtain ⟨a0, a1, a2, a3, a4, a5, b0, b1, b2, b3, b4, b5⟩ := id hs
  go_wp2
  go_ret2
  exact ⟨rfl, Hb.out⟩

set_option maxRecDepth 100000 in
set_option maxHeartbeats 2000000 in
theorem r16in_bad {w : World} {Z1 Z2 Z3 Z4 : Zone} {n0 s0 n1 s1 m0 t0 m1 t1 : Bool} {l0 l1 k0 k1 : List Nat} {A B C D : Option Addr} {a b c d : Nat}
    (u1 : U64s w Z1 A a l0) (u2 : U64s w Z2 B b l1) (u3 : U64s w Z3 C c k0) (u4 : U64s w Z4 D d k1) (q1 : l0.length ≤ 60) (q2 : l1.length ≤ 60) (q3 : k0.length ≤ 60) (q4 : k1.length ≤ 60) (hb : ¬ (okA n0 s0 l0 n1 s1 l1 = true ∧ okA m0 t0 k0 m1 t1 k1 = true)) :
    Calls Try.prog 13 #[.agg #[.bool n0, .bool s0, .slice A l0.length a, .bool n1, .bool s1, .slice B l1.length b], .agg #[.bool m0, .bool t0, .slice C k0.length c, .bool m1, .bool t1, .slice D k1.length d]] w fun e w' => e = .returned (.tuple #[.bool false, .int .i64 8]) ∧ Below w.heap.size w w' := by
  obtain ⟨bA, bB, hB0⟩ := boxT w (.bool n0) (.bool s0) (.slice A l0.length a) (.bool n1) (.bool s1) (.slice B l1.length b) (.bool m0) (.bool t0) (.slice C k0.length c) (.bool m1) (.bool t1) (.slice D k1.length d) 29
  have Hb := Lib.hid hB0
  have hs := boxT_of bA bB
  have T1 := Lib.hid (fun (W : World) (h : Below w.heap.size w W) => r16two_any (u1.below h) (u2.below h) (u3.below h) (u4.below h) q1 q2 q3 q4 (n0 := n0) (s0 := s0) (n1 := n1) (s1 := s1) (m0 := m0) (t0 := t0) (m1 := m1) (t1 := t1) rfl rfl)
  rw [show errA2 (okA n0 s0 l0 n1 s1 l1) (okA m0 t0 k0 m1 t1 k1) = 8 from if_neg hb] at T1
  clear u1 u2 u3 u4 bA bB hB0 hb
  obtain ⟨a0, a1, a2, a3, a4, a5, b0, b1, b2, b3, b4, b5⟩ := id hs
  go_enter Try.func13, Try.ntmps13
  go_wp2_with fail
  refine (T1.out _ Hb.out).mono ?_
  rintro e w1 ⟨rfl, hc⟩
  have hs := boxT_keep hs hc
  have Hb := Lib.hid (from_ Hb.out hc)
  clear a0 a1 a2 a3 a4 a5 b0 b1 b2 b3 b4 b5
  obtain ⟨a0, a1, a2, a3, a4, a5, b0, b1, b2, b3, b4, b5⟩ := id hs
  go_wp2
  go_ret2
  exact ⟨rfl, Hb.out⟩

set_option maxRecDepth 100000 in
set_option maxHeartbeats 2000000 in
theorem iin_bad {w : World} {Z1 Z2 Z3 Z4 : Zone} {n0 s0 n1 s1 m0 t0 m1 t1 : Bool} {l0 l1 k0 k1 : List Nat} {A B C D : Option Addr} {a b c d : Nat}
    (u1 : U64s w Z1 A a l0) (u2 : U64s w Z2 B b l1) (u3 : U64s w Z3 C c k0) (u4 : U64s w Z4 D d k1) (q1 : l0.length ≤ 60) (q2 : l1.length ≤ 60) (q3 : k0.length ≤ 60) (q4 : k1.length ≤ 60) (hb : ¬ (okA n0 s0 l0 n1 s1 l1 = true ∧ okA m0 t0 k0 m1 t1 k1 = true)) :
    Calls Try.prog 9 #[.agg #[.bool n0, .bool s0, .slice A l0.length a, .bool n1, .bool s1, .slice B l1.length b], .agg #[.bool m0, .bool t0, .slice C k0.length c, .bool m1, .bool t1, .slice D k1.length d]] w fun e w' => e = .returned (.tuple #[.bool false, .int .i64 8]) ∧ Below w.heap.size w w' := by
  obtain ⟨bA, bB, hB0⟩ := boxT w (.bool n0) (.bool s0) (.slice A l0.length a) (.bool n1) (.bool s1) (.slice B l1.length b) (.bool m0) (.bool t0) (.slice C k0.length c) (.bool m1) (.bool t1) (.slice D k1.length d) 29
  have Hb := Lib.hid hB0
  have hs := boxT_of bA bB
  have hb1 := hB0.alloc hB0.size (.cells #[.bool n0, .bool s0, .slice A l0.length a, .bool n1, .bool s1, .slice B l1.length b, .bool m0, .bool t0, .slice C k0.length c, .bool m1, .bool t1, .slice D k1.length d] 29)
  have hg := given_twoA (p := ⟨n0, s0, l0, n1, s1, l1⟩) (q := ⟨m0, t0, k0, m1, t1, k1⟩) (ty := 29) (u1.below hB0) (u2.below hB0) (u3.below hB0) (u4.below hB0)
  rw [show ((w.alloc (.cells #[.bool n0, .bool s0, .slice A l0.length a, .bool n1, .bool s1, .slice B l1.length b] 29)).alloc (.cells #[.bool m0, .bool t0, .slice C k0.length c, .bool m1, .bool t1, .slice D k1.length d] 29)).heap.size = w.heap.size + 2 by simp] at hg
  have hck := ichecked_any (n := 2) (c := 2) hg rfl (by simp) (by intro p hp; simp only [List.mem_cons, List.not_mem_nil, or_false] at hp; rcases hp with rfl | rfl <;> exact ⟨by dsimp only; omega, by dsimp only; omega⟩)
  rw [errAs_two, if_neg (show ¬ (Iv.ok ⟨n0, s0, l0, n1, s1, l1⟩ = true ∧ Iv.ok ⟨m0, t0, k0, m1, t1, k1⟩ = true) from hb)] at hck
  have Hck := Lib.hid hck
  have Hb1 := Lib.hid hb1
  clear hck hb1 hg u1 u2 u3 u4 bA bB hB0 hb
  obtain ⟨a0, a1, a2, a3, a4, a5, b0, b1, b2, b3, b4, b5⟩ := id hs
  go_enter Try.func9, Try.ntmps9
  go_wp2_with fail
  refine Hck.out.mono ?_
  rintro e w1 ⟨rfl, hc⟩
  have Hz := Lib.hid (from_ Hb1.out hc)
  go_wp2
  go_ret2
  exact ⟨rfl, Hz.out⟩

end Go.Proofs.Ytennphechbngcaa

namespace Go.Proofs.Ytennphechbngcaa
open Go.RowKit
set_option linter.unusedVariables false
set_option linter.unusedSimpArgs false

set_option maxRecDepth 100000 in
set_option maxHeartbeats 2000000 in
theorem r16same_any {w : World} {Z1 Z2 Z3 Z4 : Zone} {n0 s0 n1 s1 m0 t0 m1 t1 : Bool} {l0 l1 k0 k1 : List Nat} {A B C D : Option Addr} {a b c d : Nat}
    (u1 : U64s w Z1 A a l0) (u2 : U64s w Z2 B b l1) (u3 : U64s w Z3 C c k0) (u4 : U64s w Z4 D d k1) :
    Calls Try.prog 22 #[.agg #[.bool n0, .bool s0, .slice A l0.length a, .bool n1, .bool s1, .slice B l1.length b], .agg #[.bool m0, .bool t0, .slice C k0.length c, .bool m1, .bool t1, .slice D k1.length d]] w fun e w' => e = .returned (.bool (decide ((n0 = m0 ∧ s0 = t0 ∧ l0 = k0) ∧ n1 = m1 ∧ s1 = t1 ∧ l1 = k1))) ∧ Below w.heap.size w w' := by
  obtain ⟨bA, bB, hB0⟩ := boxT w (.bool n0) (.bool s0) (.slice A l0.length a) (.bool n1) (.bool s1) (.slice B l1.length b) (.bool m0) (.bool t0) (.slice C k0.length c) (.bool m1) (.bool t1) (.slice D k1.length d) 29
  have Hb := Lib.hid hB0
  have hs := boxT_of bA bB
  have M1 := Lib.hid (fun (W : World) (h : Below w.heap.size w W) => same5_any (a := .agg #[.bool s0, .slice A l0.length a]) (b := .agg #[.bool t0, .slice C k0.length c]) ⟨_, rfl, A, a, rfl, u1.below h⟩ ⟨_, rfl, C, c, rfl, u3.below h⟩)
  have M2 := Lib.hid (fun (W : World) (h : Below w.heap.size w W) => same5_any (a := .agg #[.bool s1, .slice B l1.length b]) (b := .agg #[.bool t1, .slice D k1.length d]) ⟨_, rfl, B, b, rfl, u2.below h⟩ ⟨_, rfl, D, d, rfl, u4.below h⟩)
  have hp0 : (s0 = t0 ∧ l0 = k0) ∨ ¬ (s0 = t0 ∧ l0 = k0) := Decidable.em _
  have hq0 : (s1 = t1 ∧ l1 = k1) ∨ ¬ (s1 = t1 ∧ l1 = k1) := Decidable.em _
  obtain ⟨r, hr⟩ : ∃ r, decide ((n0 = m0 ∧ s0 = t0 ∧ l0 = k0) ∧ n1 = m1 ∧ s1 = t1 ∧ l1 = k1) = r := ⟨_, rfl⟩
  rw [hr]
  obtain ⟨p, hp⟩ : ∃ p, decide (s0 = t0 ∧ l0 = k0) = p := ⟨_, rfl⟩
  obtain ⟨q, hq⟩ : ∃ q, decide (s1 = t1 ∧ l1 = k1) = q := ⟨_, rfl⟩
  rw [hp] at M1
  rw [hq] at M2
  clear u1 u2 u3 u4 bA bB hB0
  by_cases hn : n0 = m0
  · rcases hp0 with hp0 | hp0
    · obtain rfl : p = true := by rw [← hp]; exact decide_eq_true hp0
      by_cases hm : n1 = m1
      · obtain rfl : q = r := by rw [← hr, ← hq]; exact decide_eq_decide.2 ⟨fun h => ⟨⟨hn, hp0⟩, hm, h⟩, fun h => h.2.2⟩
        subst hn hm
        clear hp hq hr hp0 hq0
        cases q
        all_goals
          obtain ⟨a0, a1, a2, a3, a4, a5, b0, b1, b2, b3, b4, b5⟩ := id hs
          go_enter Try.func22, Try.ntmps22
          go_wp2_with fail
          refine (M1.out _ Hb.out).mono ?_
          rintro e w1 ⟨rfl, hc⟩
          have hs := boxT_keep hs hc
          have Hb := Lib.hid (from_ Hb.out hc)
          clear a0 a1 a2 a3 a4 a5 b0 b1 b2 b3 b4 b5
          obtain ⟨a0, a1, a2, a3, a4, a5, b0, b1, b2, b3, b4, b5⟩ := id hs
          go_wp2_with fail
          refine (M2.out _ Hb.out).mono ?_
          rintro e w1 ⟨rfl, hc⟩
          have hs := boxT_keep hs hc
          have Hb := Lib.hid (from_ Hb.out hc)
          clear a0 a1 a2 a3 a4 a5 b0 b1 b2 b3 b4 b5
          obtain ⟨a0, a1, a2, a3, a4, a5, b0, b1, b2, b3, b4, b5⟩ := id hs
          go_wp2
          go_ret
          exact ⟨rfl, Hb.out⟩
      · obtain rfl : r = false := by rw [← hr]; exact decide_eq_false (fun h => hm h.2.1)
        have hd : (n1 == m1) = false := beq_false_of_ne hm
        have hd2 : decide (n1 = m1) = false := decide_eq_false hm
        subst hn
        clear hp hq hr hp0 hq0
        obtain ⟨a0, a1, a2, a3, a4, a5, b0, b1, b2, b3, b4, b5⟩ := id hs
        go_enter Try.func22, Try.ntmps22
        go_wp2_with fail
        refine (M1.out _ Hb.out).mono ?_
        rintro e w1 ⟨rfl, hc⟩
        have hs := boxT_keep hs hc
        have Hb := Lib.hid (from_ Hb.out hc)
        clear a0 a1 a2 a3 a4 a5 b0 b1 b2 b3 b4 b5
        obtain ⟨a0, a1, a2, a3, a4, a5, b0, b1, b2, b3, b4, b5⟩ := id hs
        go_wp2
        go_ret
        exact ⟨rfl, Hb.out⟩
    · obtain rfl : p = false := by rw [← hp]; exact decide_eq_false hp0
      obtain rfl : r = false := by rw [← hr]; exact decide_eq_false (fun h => hp0 h.1.2)
      subst hn
      clear hp hq hr hp0 hq0
      obtain ⟨a0, a1, a2, a3, a4, a5, b0, b1, b2, b3, b4, b5⟩ := id hs
      go_enter Try.func22, Try.ntmps22
      go_wp2_with fail
      refine (M1.out _ Hb.out).mono ?_
      rintro e w1 ⟨rfl, hc⟩
      have hs := boxT_keep hs hc
      have Hb := Lib.hid (from_ Hb.out hc)
      clear a0 a1 a2 a3 a4 a5 b0 b1 b2 b3 b4 b5
      obtain ⟨a0, a1, a2, a3, a4, a5, b0, b1, b2, b3, b4, b5⟩ := id hs
      go_wp2
      go_ret
      exact ⟨rfl, Hb.out⟩
  · obtain rfl : r = false := by rw [← hr]; exact decide_eq_false (fun h => hn h.1.1)
    have hd : (n0 == m0) = false := beq_false_of_ne hn
    have hd2 : decide (n0 = m0) = false := decide_eq_false hn
    clear hp hq hr hp0 hq0
    obtain ⟨a0, a1, a2, a3, a4, a5, b0, b1, b2, b3, b4, b5⟩ := id hs
    go_enter Try.func22, Try.ntmps22
    go_wp2
    go_ret
    exact ⟨rfl, Hb.out⟩

end Go.Proofs.Ytennphechbngcaa

namespace Go.Proofs.Ytennphechbngcaa
open Go.RowKit
set_option linter.unusedVariables false
set_option linter.unusedSimpArgs false

set_option maxRecDepth 100000 in
set_option maxHeartbeats 2000000 in
theorem isame1_any {w : World} {Z Y : Zone} {n s m t : Bool} {l k : List Nat} {A B : Option Addr} {a b : Nat} (u : U64s w Z A a l) (v : U64s w Y B b k) :
    Calls Try.prog 56 #[.agg #[.bool n, .bool s, .slice A l.length a], .agg #[.bool m, .bool t, .slice B k.length b]] w fun e w' => e = .returned (.bool (decide (n = m ∧ s = t ∧ l = k))) ∧ Below w.heap.size w w' := by
  obtain ⟨bA, bB, hB0⟩ := boxQ w (.bool n) (.bool s) (.slice A l.length a) (.bool m) (.bool t) (.slice B k.length b) 27 27
  have Hb := Lib.hid hB0
  have M1 := Lib.hid (wsame_any (a := .agg #[.bool s, .slice A l.length a]) (b := .agg #[.bool t, .slice B k.length b]) ⟨_, rfl, A, a, rfl, u.below hB0⟩ ⟨_, rfl, B, b, rfl, v.below hB0⟩)
  obtain ⟨a0, a1, a2, _, _, _, _⟩ := bA
  obtain ⟨b0, b1, b2, _, _, _, _⟩ := bB
  clear u v hB0
  obtain ⟨r, hr⟩ : ∃ r, decide (n = m ∧ s = t ∧ l = k) = r := ⟨_, rfl⟩
  rw [hr]
  by_cases hn : n = m
  · have e1 : decide (s = t ∧ l = k) = r := by rw [← hr]; exact decide_eq_decide.2 ⟨fun h => ⟨hn, h⟩, fun h => h.2⟩
    rw [e1] at M1
    subst hn
    clear hr e1
    cases r
    all_goals
      go_enter Try.func56, Try.ntmps56
      go_wp2_with fail
      refine M1.out.mono ?_
      rintro e w1 ⟨rfl, hc⟩
      have Hz := Lib.hid (from_ Hb.out hc)
      go_wp2
      go_ret
      exact ⟨rfl, Hz.out⟩
  · obtain rfl : r = false := by rw [← hr]; exact decide_eq_false (fun h => hn h.1)
    have hd : (n == m) = false := beq_false_of_ne hn
    have hd2 : decide (n = m) = false := decide_eq_false hn
    clear hr M1
    go_enter Try.func56, Try.ntmps56
    go_wp2
    go_ret
    exact ⟨rfl, Hb.out⟩

set_option maxRecDepth 100000 in
set_option maxHeartbeats 2000000 in
theorem isame_any {w : World} {Z1 Z2 Z3 Z4 : Zone} {n0 s0 n1 s1 m0 t0 m1 t1 : Bool} {l0 l1 k0 k1 : List Nat} {A B C D : Option Addr} {a b c d : Nat}
    (u1 : U64s w Z1 A a l0) (u2 : U64s w Z2 B b l1) (u3 : U64s w Z3 C c k0) (u4 : U64s w Z4 D d k1) :
    Calls Try.prog 24 #[.agg #[.bool n0, .bool s0, .slice A l0.length a, .bool n1, .bool s1, .slice B l1.length b], .agg #[.bool m0, .bool t0, .slice C k0.length c, .bool m1, .bool t1, .slice D k1.length d]] w fun e w' => e = .returned (.bool (decide ((n0 = m0 ∧ s0 = t0 ∧ l0 = k0) ∧ n1 = m1 ∧ s1 = t1 ∧ l1 = k1))) ∧ Below w.heap.size w w' := by
  obtain ⟨bA, bB, hB0⟩ := boxT w (.bool n0) (.bool s0) (.slice A l0.length a) (.bool n1) (.bool s1) (.slice B l1.length b) (.bool m0) (.bool t0) (.slice C k0.length c) (.bool m1) (.bool t1) (.slice D k1.length d) 29
  have Hb := Lib.hid hB0
  have hs := boxT_of bA bB
  have M1 := Lib.hid (fun (W : World) (h : Below w.heap.size w W) => isame1_any (n := n0) (s := s0) (m := m0) (t := t0) (u1.below h) (u3.below h))
  have M2 := Lib.hid (fun (W : World) (h : Below w.heap.size w W) => isame1_any (n := n1) (s := s1) (m := m1) (t := t1) (u2.below h) (u4.below h))
  obtain ⟨r, hr⟩ : ∃ r, decide ((n0 = m0 ∧ s0 = t0 ∧ l0 = k0) ∧ n1 = m1 ∧ s1 = t1 ∧ l1 = k1) = r := ⟨_, rfl⟩
  rw [hr]
  obtain ⟨p, hp⟩ : ∃ p, decide (n0 = m0 ∧ s0 = t0 ∧ l0 = k0) = p := ⟨_, rfl⟩
  obtain ⟨q, hq⟩ : ∃ q, decide (n1 = m1 ∧ s1 = t1 ∧ l1 = k1) = q := ⟨_, rfl⟩
  rw [hp] at M1
  rw [hq] at M2
  rw [Bool.decide_and, hp, hq] at hr
  clear u1 u2 u3 u4 bA bB hB0 hp hq
  cases p with
  | false =>
    obtain rfl : r = false := by rw [← hr]; rfl
    clear hr
    obtain ⟨a0, a1, a2, a3, a4, a5, b0, b1, b2, b3, b4, b5⟩ := id hs
    go_enter Try.func24, Try.ntmps24
    go_wp2_with fail
    refine (M1.out _ Hb.out).mono ?_
    rintro e w1 ⟨rfl, hc⟩
    have hs := boxT_keep hs hc
    have Hb := Lib.hid (from_ Hb.out hc)
    clear a0 a1 a2 a3 a4 a5 b0 b1 b2 b3 b4 b5
    obtain ⟨a0, a1, a2, a3, a4, a5, b0, b1, b2, b3, b4, b5⟩ := id hs
    go_wp2
    go_ret
    exact ⟨rfl, Hb.out⟩
  | true =>
    obtain rfl : q = r := by rw [← hr, Bool.true_and]
    clear hr
    cases q
    all_goals
      obtain ⟨a0, a1, a2, a3, a4, a5, b0, b1, b2, b3, b4, b5⟩ := id hs
      go_enter Try.func24, Try.ntmps24
      go_wp2_with fail
      refine (M1.out _ Hb.out).mono ?_
      rintro e w1 ⟨rfl, hc⟩
      have hs := boxT_keep hs hc
      have Hb := Lib.hid (from_ Hb.out hc)
      clear a0 a1 a2 a3 a4 a5 b0 b1 b2 b3 b4 b5
      obtain ⟨a0, a1, a2, a3, a4, a5, b0, b1, b2, b3, b4, b5⟩ := id hs
      go_wp2_with fail
      refine (M2.out _ Hb.out).mono ?_
      rintro e w1 ⟨rfl, hc⟩
      have hs := boxT_keep hs hc
      have Hb := Lib.hid (from_ Hb.out hc)
      clear a0 a1 a2 a3 a4 a5 b0 b1 b2 b3 b4 b5
      obtain ⟨a0, a1, a2, a3, a4, a5, b0, b1, b2, b3, b4, b5⟩ := id hs
      go_wp2
      go_ret
      exact ⟨rfl, Hb.out⟩

end Go.Proofs.Ytennphechbngcaa

namespace Go.Proofs.Ytennphechbngcaa
open Go.RowKit
set_option linter.unusedVariables false
set_option linter.unusedSimpArgs false

/-- A box of six and one of two. -/
theorem boxU (w : World) (a0 a1 a2 a3 a4 a5 b0 b1 : Value) (t u : TypeId) :
    Box6 ((w.alloc (.cells #[a0, a1, a2, a3, a4, a5] t)).alloc (.cells #[b0, b1] u)) w.heap.size a0 a1 a2 a3 a4 a5 ∧
    Box ((w.alloc (.cells #[a0, a1, a2, a3, a4, a5] t)).alloc (.cells #[b0, b1] u)) (w.heap.size + 1) b0 b1 ∧
    Below w.heap.size w ((w.alloc (.cells #[a0, a1, a2, a3, a4, a5] t)).alloc (.cells #[b0, b1] u)) := by
  have h1 := (Box6.new w a0 a1 a2 a3 a4 a5 t).alloc (.cells #[b0, b1] u)
  have h2 := Box.new (w.alloc (.cells #[a0, a1, a2, a3, a4, a5] t)) b0 b1 u
  rw [show (w.alloc (.cells #[a0, a1, a2, a3, a4, a5] t)).heap.size = w.heap.size + 1 by simp] at h2
  exact ⟨h1, h2, ((Below.refl _ w).alloc (Nat.le_refl _) _).alloc (by simp) _⟩
theorem boxU_keep {W W' : World} {g h : Nat} {a0 a1 a2 a3 a4 a5 b0 b1 : Value} (hs : W.cell? ⟨g, 0, none⟩ = some a0 ∧ W.cell? ⟨g, 1, none⟩ = some a1 ∧ W.cell? ⟨g, 2, none⟩ = some a2 ∧ W.cell? ⟨g, 3, none⟩ = some a3 ∧ W.cell? ⟨g, 4, none⟩ = some a4 ∧ W.cell? ⟨g, 5, none⟩ = some a5 ∧ W.cell? ⟨h, 0, none⟩ = some b0 ∧ W.cell? ⟨h, 1, none⟩ = some b1) (hb : Below W.heap.size W W') :
    W'.cell? ⟨g, 0, none⟩ = some a0 ∧ W'.cell? ⟨g, 1, none⟩ = some a1 ∧ W'.cell? ⟨g, 2, none⟩ = some a2 ∧ W'.cell? ⟨g, 3, none⟩ = some a3 ∧ W'.cell? ⟨g, 4, none⟩ = some a4 ∧ W'.cell? ⟨g, 5, none⟩ = some a5 ∧ W'.cell? ⟨h, 0, none⟩ = some b0 ∧ W'.cell? ⟨h, 1, none⟩ = some b1 := by
  obtain ⟨h0, h1, h2, h3, h4, h5, h6, h7⟩ := hs
  exact ⟨keepC hb h0, keepC hb h1, keepC hb h2, keepC hb h3, keepC hb h4, keepC hb h5, keepC hb h6, keepC hb h7⟩
theorem boxU_of {W : World} {g h : Nat} {a0 a1 a2 a3 a4 a5 b0 b1 : Value} (h1 : Box6 W g a0 a1 a2 a3 a4 a5) (h2 : Box W h b0 b1) :
    W.cell? ⟨g, 0, none⟩ = some a0 ∧ W.cell? ⟨g, 1, none⟩ = some a1 ∧ W.cell? ⟨g, 2, none⟩ = some a2 ∧ W.cell? ⟨g, 3, none⟩ = some a3 ∧ W.cell? ⟨g, 4, none⟩ = some a4 ∧ W.cell? ⟨g, 5, none⟩ = some a5 ∧ W.cell? ⟨h, 0, none⟩ = some b0 ∧ W.cell? ⟨h, 1, none⟩ = some b1 := by
  obtain ⟨x0, x1, _, _, _⟩ := h2
  exact ⟨h1.c0, h1.c1, h1.c2, h1.c3, h1.c4, h1.c5, x0, x1⟩

set_option maxRecDepth 100000 in
set_option maxHeartbeats 8000000 in
theorem r16within_good {w : World} {Z1 Z2 Z3 : Zone} {n0 s0 n1 s1 t : Bool} {l0 l1 k : List Nat} {A B C : Option Addr} {a b c : Nat}
    (u1 : U64s w Z1 A a l0) (u2 : U64s w Z2 B b l1) (u3 : U64s w Z3 C c k) (h1 : okE n0 s0 l0 = true) (h2 : okE n1 s1 l1 = true) (h3 : okI t k = true)
    (q1 : l0.length ≤ 60) (q2 : l1.length ≤ 60) (q3 : k.length ≤ 60) {r : Bool} (hr : decide (loV n0 s0 l0 ≤ zof t k ∧ zof t k ≤ hiV n1 s1 l1) = r) :
    Calls Try.prog 47 #[.agg #[.bool n0, .bool s0, .slice A l0.length a, .bool n1, .bool s1, .slice B l1.length b], .agg #[.bool t, .slice C k.length c]] w fun e w' => e = .returned (.bool r) ∧ Below w.heap.size w w' := by
  rw [Bool.decide_and] at hr
  have hz := zof_big (s := t) u3.small q3
  obtain ⟨bA, bB, hB0⟩ := boxU w (.bool n0) (.bool s0) (.slice A l0.length a) (.bool n1) (.bool s1) (.slice B l1.length b) (.bool t) (.slice C k.length c) 29 25
  have Hb := Lib.hid hB0
  have hs := boxU_of bA bB
  have U1 := Lib.hid u1
  have U2 := Lib.hid u2
  have U3 := Lib.hid u3
  obtain ⟨g1, hg1⟩ : ∃ g, sgn (zof s0 l0 - zof t k) = g := ⟨_, rfl⟩
  obtain ⟨g2, hg2⟩ : ∃ g, sgn (zof t k - zof s1 l1) = g := ⟨_, rfl⟩
  have e1 := sgn_iff (zof s0 l0) (zof t k)
  have e2 := sgn_iff (zof t k) (zof s1 l1)
  rw [hg1] at e1
  rw [hg2] at e2
  clear u1 u2 u3 bA bB hB0
  have HL : (n0 = true) ∨ (n0 = false ∧ g1 ≤ 0) ∨ (n0 = false ∧ ¬ g1 ≤ 0) := by cases n0 <;> by_cases h : g1 ≤ 0 <;> simp [h]
  have HH : (n1 = true) ∨ (n1 = false ∧ g2 ≤ 0) ∨ (n1 = false ∧ ¬ g2 ≤ 0) := by cases n1 <;> by_cases h : g2 ≤ 0 <;> simp [h]
  rcases HL with rfl | ⟨rfl, hc1⟩ | ⟨rfl, hc1⟩
  · have x1 : decide (loV true s0 l0 ≤ zof t k) = true := decide_eq_true (by show -bigZ ≤ zof t k; omega)
    rcases HH with rfl | ⟨rfl, hc2⟩ | ⟨rfl, hc2⟩
    · have x2 : decide (zof t k ≤ hiV true s1 l1) = true := decide_eq_true (by show zof t k ≤ bigZ; omega)
      obtain rfl : r = true := by rw [← hr, x1, x2]; rfl
      clear hr x1 x2 e1 e2 hg1 hg2 h1 h2 h3 hz 
      obtain ⟨a0, a1, a2, a3, a4, a5, b0, b1⟩ := id hs
      go_enter Try.func47, Try.ntmps47
      go_wp2
      go_ret
      exact ⟨rfl, Hb.out⟩
    · have x2 : decide (zof t k ≤ hiV false s1 l1) = true := decide_eq_true (e2.1 hc2)
      obtain rfl : r = true := by rw [← hr, x1, x2]; rfl
      have C2 := Lib.hid (fun (W : World) (h : Below w.heap.size w W) => cmp5_w (U3.out.below h) (U2.out.below h) h3 h2 q3 q2 hg2)
      have d2 : decide (g2 ≤ 0) = true := decide_eq_true hc2
      clear hr x1 x2 e1 e2 hg1 hg2 h1 h2 h3 hz hc2
      obtain ⟨a0, a1, a2, a3, a4, a5, b0, b1⟩ := id hs
      go_enter Try.func47, Try.ntmps47
      go_wp2_with fail
      refine (C2.out _ Hb.out).mono ?_
      rintro e w1 ⟨rfl, hc⟩
      have hs := boxU_keep hs hc
      have Hb := Lib.hid (from_ Hb.out hc)
      clear a0 a1 a2 a3 a4 a5 b0 b1
      obtain ⟨a0, a1, a2, a3, a4, a5, b0, b1⟩ := id hs
      go_wp2
      go_ret
      exact ⟨rfl, Hb.out⟩
    · have x2 : decide (zof t k ≤ hiV false s1 l1) = false := decide_eq_false (fun h => hc2 (e2.2 h))
      obtain rfl : r = false := by rw [← hr, x1, x2]; rfl
      have C2 := Lib.hid (fun (W : World) (h : Below w.heap.size w W) => cmp5_w (U3.out.below h) (U2.out.below h) h3 h2 q3 q2 hg2)
      have d2 : decide (g2 ≤ 0) = false := decide_eq_false hc2
      clear hr x1 x2 e1 e2 hg1 hg2 h1 h2 h3 hz hc2
      obtain ⟨a0, a1, a2, a3, a4, a5, b0, b1⟩ := id hs
      go_enter Try.func47, Try.ntmps47
      go_wp2_with fail
      refine (C2.out _ Hb.out).mono ?_
      rintro e w1 ⟨rfl, hc⟩
      have hs := boxU_keep hs hc
      have Hb := Lib.hid (from_ Hb.out hc)
      clear a0 a1 a2 a3 a4 a5 b0 b1
      obtain ⟨a0, a1, a2, a3, a4, a5, b0, b1⟩ := id hs
      go_wp2
      go_ret
      exact ⟨rfl, Hb.out⟩
  · have x1 : decide (loV false s0 l0 ≤ zof t k) = true := decide_eq_true (e1.1 hc1)
    have C1 := Lib.hid (fun (W : World) (h : Below w.heap.size w W) => cmp5_w (U1.out.below h) (U3.out.below h) h1 h3 q1 q3 hg1)
    have d1 : decide (g1 ≤ 0) = true := decide_eq_true hc1
    rcases HH with rfl | ⟨rfl, hc2⟩ | ⟨rfl, hc2⟩
    · have x2 : decide (zof t k ≤ hiV true s1 l1) = true := decide_eq_true (by show zof t k ≤ bigZ; omega)
      obtain rfl : r = true := by rw [← hr, x1, x2]; rfl
      clear hr x1 x2 e1 e2 hg1 hg2 h1 h2 h3 hz hc1 
      obtain ⟨a0, a1, a2, a3, a4, a5, b0, b1⟩ := id hs
      go_enter Try.func47, Try.ntmps47
      go_wp2_with fail
      refine (C1.out _ Hb.out).mono ?_
      rintro e w1 ⟨rfl, hc⟩
      have hs := boxU_keep hs hc
      have Hb := Lib.hid (from_ Hb.out hc)
      clear a0 a1 a2 a3 a4 a5 b0 b1
      obtain ⟨a0, a1, a2, a3, a4, a5, b0, b1⟩ := id hs
      go_wp2
      go_ret
      exact ⟨rfl, Hb.out⟩
    · have x2 : decide (zof t k ≤ hiV false s1 l1) = true := decide_eq_true (e2.1 hc2)
      obtain rfl : r = true := by rw [← hr, x1, x2]; rfl
      have C2 := Lib.hid (fun (W : World) (h : Below w.heap.size w W) => cmp5_w (U3.out.below h) (U2.out.below h) h3 h2 q3 q2 hg2)
      have d2 : decide (g2 ≤ 0) = true := decide_eq_true hc2
      clear hr x1 x2 e1 e2 hg1 hg2 h1 h2 h3 hz hc1 hc2
      obtain ⟨a0, a1, a2, a3, a4, a5, b0, b1⟩ := id hs
      go_enter Try.func47, Try.ntmps47
      go_wp2_with fail
      refine (C1.out _ Hb.out).mono ?_
      rintro e w1 ⟨rfl, hc⟩
      have hs := boxU_keep hs hc
      have Hb := Lib.hid (from_ Hb.out hc)
      clear a0 a1 a2 a3 a4 a5 b0 b1
      obtain ⟨a0, a1, a2, a3, a4, a5, b0, b1⟩ := id hs
      go_wp2_with fail
      refine (C2.out _ Hb.out).mono ?_
      rintro e w1 ⟨rfl, hc⟩
      have hs := boxU_keep hs hc
      have Hb := Lib.hid (from_ Hb.out hc)
      clear a0 a1 a2 a3 a4 a5 b0 b1
      obtain ⟨a0, a1, a2, a3, a4, a5, b0, b1⟩ := id hs
      go_wp2
      go_ret
      exact ⟨rfl, Hb.out⟩
    · have x2 : decide (zof t k ≤ hiV false s1 l1) = false := decide_eq_false (fun h => hc2 (e2.2 h))
      obtain rfl : r = false := by rw [← hr, x1, x2]; rfl
      have C2 := Lib.hid (fun (W : World) (h : Below w.heap.size w W) => cmp5_w (U3.out.below h) (U2.out.below h) h3 h2 q3 q2 hg2)
      have d2 : decide (g2 ≤ 0) = false := decide_eq_false hc2
      clear hr x1 x2 e1 e2 hg1 hg2 h1 h2 h3 hz hc1 hc2
      obtain ⟨a0, a1, a2, a3, a4, a5, b0, b1⟩ := id hs
      go_enter Try.func47, Try.ntmps47
      go_wp2_with fail
      refine (C1.out _ Hb.out).mono ?_
      rintro e w1 ⟨rfl, hc⟩
      have hs := boxU_keep hs hc
      have Hb := Lib.hid (from_ Hb.out hc)
      clear a0 a1 a2 a3 a4 a5 b0 b1
      obtain ⟨a0, a1, a2, a3, a4, a5, b0, b1⟩ := id hs
      go_wp2_with fail
      refine (C2.out _ Hb.out).mono ?_
      rintro e w1 ⟨rfl, hc⟩
      have hs := boxU_keep hs hc
      have Hb := Lib.hid (from_ Hb.out hc)
      clear a0 a1 a2 a3 a4 a5 b0 b1
      obtain ⟨a0, a1, a2, a3, a4, a5, b0, b1⟩ := id hs
      go_wp2
      go_ret
      exact ⟨rfl, Hb.out⟩
  · have x1 : decide (loV false s0 l0 ≤ zof t k) = false := decide_eq_false (fun h => hc1 (e1.2 h))
    have C1 := Lib.hid (fun (W : World) (h : Below w.heap.size w W) => cmp5_w (U1.out.below h) (U3.out.below h) h1 h3 q1 q3 hg1)
    have d1 : decide (g1 ≤ 0) = false := decide_eq_false hc1
    obtain rfl : r = false := by rw [← hr, x1]; rfl
    clear hr x1 e1 e2 hg1 hg2 h1 h2 h3 hc1 hz HH
    obtain ⟨a0, a1, a2, a3, a4, a5, b0, b1⟩ := id hs
    go_enter Try.func47, Try.ntmps47
    go_wp2_with fail
    refine (C1.out _ Hb.out).mono ?_
    rintro e w1 ⟨rfl, hc⟩
    have hs := boxU_keep hs hc
    have Hb := Lib.hid (from_ Hb.out hc)
    clear a0 a1 a2 a3 a4 a5 b0 b1
    obtain ⟨a0, a1, a2, a3, a4, a5, b0, b1⟩ := id hs
    go_wp2
    go_ret
    exact ⟨rfl, Hb.out⟩

end Go.Proofs.Ytennphechbngcaa

namespace Go.Proofs.Ytennphechbngcaa
open Go.RowKit
set_option linter.unusedVariables false
set_option linter.unusedSimpArgs false

set_option maxRecDepth 100000 in
set_option maxHeartbeats 2000000 in
theorem r16has_good {w : World} {Z1 Z2 Z3 : Zone} {n0 s0 n1 s1 t : Bool} {l0 l1 k : List Nat} {A B C : Option Addr} {a b c : Nat}
    (u1 : U64s w Z1 A a l0) (u2 : U64s w Z2 B b l1) (u3 : U64s w Z3 C c k) (h1 : okA n0 s0 l0 n1 s1 l1 = true) (h3 : okI t k = true)
    (q1 : l0.length ≤ 60) (q2 : l1.length ≤ 60) (q3 : k.length ≤ 60) {r : Bool} (hr : decide (loV n0 s0 l0 ≤ zof t k ∧ zof t k ≤ hiV n1 s1 l1) = r) :
    Calls Try.prog 15 #[.agg #[.bool n0, .bool s0, .slice A l0.length a, .bool n1, .bool s1, .slice B l1.length b], .agg #[.bool t, .slice C k.length c]] w fun e w' => e = .returned (.tuple #[.bool r, .int .i64 0]) ∧ Below w.heap.size w w' := by
  obtain ⟨bA, bB, hB0⟩ := boxU w (.bool n0) (.bool s0) (.slice A l0.length a) (.bool n1) (.bool s1) (.slice B l1.length b) (.bool t) (.slice C k.length c) 29 25
  have Hb := Lib.hid hB0
  have hs := boxU_of bA bB
  have M1 := Lib.hid (fun (W : World) (h : Below w.heap.size w W) => r16may_any (n0 := n0) (s0 := s0) (n1 := n1) (s1 := s1) (u1.below h) (u2.below h) (by omega) (by omega))
  have M2 := Lib.hid (fun (W : World) (h : Below w.heap.size w W) => r5may_any (a := .agg #[.bool t, .slice C k.length c]) ⟨_, rfl, C, c, rfl, u3.below h⟩)
  rw [h1] at M1
  rw [h3] at M2
  obtain ⟨ea1, ea2⟩ := okA_ends h1
  have M3 := Lib.hid (fun (W : World) (h : Below w.heap.size w W) => r16within_good (u1.below h) (u2.below h) (u3.below h) ea1 ea2 h3 q1 q2 q3 hr)
  clear u1 u2 u3 bA bB hB0 h1 h3 ea1 ea2 hr
  obtain ⟨a0, a1, a2, a3, a4, a5, b0, b1⟩ := id hs
  go_enter Try.func15, Try.ntmps15
  go_wp2_with fail
  refine (M1.out _ Hb.out).mono ?_
  rintro e w1 ⟨rfl, hc⟩
  have hs := boxU_keep hs hc
  have Hb := Lib.hid (from_ Hb.out hc)
  clear a0 a1 a2 a3 a4 a5 b0 b1
  obtain ⟨a0, a1, a2, a3, a4, a5, b0, b1⟩ := id hs
  go_wp2_with fail
  refine (M2.out _ Hb.out).mono ?_
  rintro e w1 ⟨rfl, hc⟩
  have hs := boxU_keep hs hc
  have Hb := Lib.hid (from_ Hb.out hc)
  clear a0 a1 a2 a3 a4 a5 b0 b1
  obtain ⟨a0, a1, a2, a3, a4, a5, b0, b1⟩ := id hs
  go_wp2_with fail
  refine (M3.out _ Hb.out).mono ?_
  rintro e w1 ⟨rfl, hc⟩
  have hs := boxU_keep hs hc
  have Hb := Lib.hid (from_ Hb.out hc)
  clear a0 a1 a2 a3 a4 a5 b0 b1
  obtain ⟨a0, a1, a2, a3, a4, a5, b0, b1⟩ := id hs
  go_wp2
  go_ret2
  exact ⟨rfl, Hb.out⟩

set_option maxRecDepth 100000 in
set_option maxHeartbeats 2000000 in
theorem r16has_bad {w : World} {Z1 Z2 Z3 : Zone} {n0 s0 n1 s1 t : Bool} {l0 l1 k : List Nat} {A B C : Option Addr} {a b c : Nat}
    (u1 : U64s w Z1 A a l0) (u2 : U64s w Z2 B b l1) (u3 : U64s w Z3 C c k)
    (q1 : l0.length ≤ 60) (q2 : l1.length ≤ 60) (q3 : k.length ≤ 60) (hb : ¬ (okA n0 s0 l0 n1 s1 l1 = true ∧ okI t k = true)) :
    Calls Try.prog 15 #[.agg #[.bool n0, .bool s0, .slice A l0.length a, .bool n1, .bool s1, .slice B l1.length b], .agg #[.bool t, .slice C k.length c]] w fun e w' => e = .returned (.tuple #[.bool false, .int .i64 8]) ∧ Below w.heap.size w w' := by
  obtain ⟨bA, bB, hB0⟩ := boxU w (.bool n0) (.bool s0) (.slice A l0.length a) (.bool n1) (.bool s1) (.slice B l1.length b) (.bool t) (.slice C k.length c) 29 25
  have Hb := Lib.hid hB0
  have hs := boxU_of bA bB
  have M1 := Lib.hid (fun (W : World) (h : Below w.heap.size w W) => r16may_any (n0 := n0) (s0 := s0) (n1 := n1) (s1 := s1) (u1.below h) (u2.below h) (by omega) (by omega))
  have M2 := Lib.hid (fun (W : World) (h : Below w.heap.size w W) => r5may_any (a := .agg #[.bool t, .slice C k.length c]) ⟨_, rfl, C, c, rfl, u3.below h⟩)
  obtain ⟨p, hp⟩ : ∃ p, okA n0 s0 l0 n1 s1 l1 = p := ⟨_, rfl⟩
  obtain ⟨q, hq⟩ : ∃ q, okI t k = q := ⟨_, rfl⟩
  rw [hp] at M1 hb
  rw [hq] at M2 hb
  clear u1 u2 u3 bA bB hB0 hp hq
  cases p with
  | false =>
    obtain ⟨a0, a1, a2, a3, a4, a5, b0, b1⟩ := id hs
    go_enter Try.func15, Try.ntmps15
    go_wp2_with fail
    refine (M1.out _ Hb.out).mono ?_
    rintro e w1 ⟨rfl, hc⟩
    have hs := boxU_keep hs hc
    have Hb := Lib.hid (from_ Hb.out hc)
    clear a0 a1 a2 a3 a4 a5 b0 b1
    obtain ⟨a0, a1, a2, a3, a4, a5, b0, b1⟩ := id hs
    go_wp2
    go_ret2
    exact ⟨rfl, Hb.out⟩
  | true =>
    cases q with
    | false =>
      obtain ⟨a0, a1, a2, a3, a4, a5, b0, b1⟩ := id hs
      go_enter Try.func15, Try.ntmps15
      go_wp2_with fail
      refine (M1.out _ Hb.out).mono ?_
      rintro e w1 ⟨rfl, hc⟩
      have hs := boxU_keep hs hc
      have Hb := Lib.hid (from_ Hb.out hc)
      clear a0 a1 a2 a3 a4 a5 b0 b1
      obtain ⟨a0, a1, a2, a3, a4, a5, b0, b1⟩ := id hs
      go_wp2_with fail
      refine (M2.out _ Hb.out).mono ?_
      rintro e w1 ⟨rfl, hc⟩
      have hs := boxU_keep hs hc
      have Hb := Lib.hid (from_ Hb.out hc)
      clear a0 a1 a2 a3 a4 a5 b0 b1
      obtain ⟨a0, a1, a2, a3, a4, a5, b0, b1⟩ := id hs
      go_wp2
      go_ret2
      exact ⟨rfl, Hb.out⟩
    | true => exact absurd ⟨rfl, rfl⟩ hb

end Go.Proofs.Ytennphechbngcaa

namespace Go.Proofs.Ytennphechbngcaa
open Go.RowKit
set_option linter.unusedVariables false
set_option linter.unusedSimpArgs false

theorem boxV_keep {W W' : World} {g h : Nat} {a0 a1 a2 a3 a4 a5 b0 b1 b2 : Value} (hs : W.cell? ⟨g, 0, none⟩ = some a0 ∧ W.cell? ⟨g, 1, none⟩ = some a1 ∧ W.cell? ⟨g, 2, none⟩ = some a2 ∧ W.cell? ⟨g, 3, none⟩ = some a3 ∧ W.cell? ⟨g, 4, none⟩ = some a4 ∧ W.cell? ⟨g, 5, none⟩ = some a5 ∧ W.cell? ⟨h, 0, none⟩ = some b0 ∧ W.cell? ⟨h, 1, none⟩ = some b1 ∧ W.cell? ⟨h, 2, none⟩ = some b2) (hb : Below W.heap.size W W') :
    W'.cell? ⟨g, 0, none⟩ = some a0 ∧ W'.cell? ⟨g, 1, none⟩ = some a1 ∧ W'.cell? ⟨g, 2, none⟩ = some a2 ∧ W'.cell? ⟨g, 3, none⟩ = some a3 ∧ W'.cell? ⟨g, 4, none⟩ = some a4 ∧ W'.cell? ⟨g, 5, none⟩ = some a5 ∧ W'.cell? ⟨h, 0, none⟩ = some b0 ∧ W'.cell? ⟨h, 1, none⟩ = some b1 ∧ W'.cell? ⟨h, 2, none⟩ = some b2 := by
  obtain ⟨h0, h1, h2, h3, h4, h5, h6, h7, h8⟩ := hs
  exact ⟨keepC hb h0, keepC hb h1, keepC hb h2, keepC hb h3, keepC hb h4, keepC hb h5, keepC hb h6, keepC hb h7, keepC hb h8⟩

set_option maxRecDepth 100000 in
set_option maxHeartbeats 2000000 in
theorem ihas_good {w : World} {Z1 Z2 Z3 : Zone} {n0 s0 n1 s1 t : Bool} {l0 l1 k : List Nat} {A B C : Option Addr} {a b c : Nat}
    (u1 : U64s w Z1 A a l0) (u2 : U64s w Z2 B b l1) (u3 : U64s w Z3 C c k) (h1 : okA n0 s0 l0 n1 s1 l1 = true) (h3 : okI t k = true)
    (q1 : l0.length ≤ 60) (q2 : l1.length ≤ 60) (q3 : k.length ≤ 60) {r : Bool} (hr : decide (loV n0 s0 l0 ≤ zof t k ∧ zof t k ≤ hiV n1 s1 l1) = r) :
    Calls Try.prog 14 #[.agg #[.bool n0, .bool s0, .slice A l0.length a, .bool n1, .bool s1, .slice B l1.length b], .agg #[.bool t, .slice C k.length c]] w fun e w' => e = .returned (.tuple #[.bool r, .int .i64 0]) ∧ Below w.heap.size w w' := by
  obtain ⟨bA, bB, hB0⟩ := boxU w (.bool n0) (.bool s0) (.slice A l0.length a) (.bool n1) (.bool s1) (.slice B l1.length b) (.bool t) (.slice C k.length c) 29 25
  have Hb := Lib.hid hB0
  have hs := boxU_of bA bB
  have M1 := Lib.hid (fun (W : World) (h : Below w.heap.size w W) => icheck_any (n0 := n0) (s0 := s0) (n1 := n1) (s1 := s1) (u1.below h) (u2.below h) (by omega) (by omega))
  have M2 := Lib.hid (fun (W : World) (h : Below w.heap.size w W) => wcheck_any (a := .agg #[.bool t, .slice C k.length c]) ⟨_, rfl, C, c, rfl, u3.below h⟩)
  rw [show errA n0 s0 l0 n1 s1 l1 = 0 from if_pos h1] at M1
  rw [show errC t k = 0 from if_pos h3] at M2
  obtain ⟨ea1, ea2⟩ := okA_ends h1
  obtain ⟨x1, xs1, xl1, xA1, xc1, P1⟩ := Plc.ex (-1) n0 s0 l0 A a
  obtain ⟨x2, xs2, xl2, xA2, xc2, P2⟩ := Plc.ex 1 n1 s1 l1 B b
  have p1 := P1.lo ea1 u1.small q1
  have p2 := P2.hi ea2 u2.small q2
  have p3 : Pl (zof t k) 0 t k := Or.inl ⟨rfl, Nm.ok h3 u3.small, zof_big u3.small q3⟩
  have r1 := P1.len
  have r2 := P2.len
  have v1 := P1.u64s u1
  have v2 := P2.u64s u2
  obtain ⟨g1, hg1⟩ : ∃ g, cmpP x1 0 (loV n0 s0 l0) (zof t k) = g := ⟨_, rfl⟩
  obtain ⟨g2, hg2⟩ : ∃ g, cmpP 0 x2 (zof t k) (hiV n1 s1 l1) = g := ⟨_, rfl⟩
  have e1 := (cmpP_le p1 p3).1
  have e2 := (cmpP_le p3 p2).1
  rw [hg1] at e1
  rw [hg2] at e2
  have L1 := Lib.hid (fun (W : World) => ilow_p (w := W) (v3 := .bool n1) (v4 := .bool s1) (v5 := .slice B l1.length b) P1)
  have L2 := Lib.hid (fun (W : World) => ihigh_p (w := W) (v3 := .bool n0) (v4 := .bool s0) (v5 := .slice A l0.length a) P2)
  have C1 := Lib.hid (fun (W : World) (h : Below w.heap.size w W) => icompare_p p1 p3 (v1.below h) (u3.below h) (by omega) (by omega) hg1)
  have C2 := Lib.hid (fun (W : World) (h : Below w.heap.size w W) => icompare_p p3 p2 (u3.below h) (v2.below h) (by omega) (by omega) hg2)
  have hd1 : decide (g1 ≤ 0) = decide (loV n0 s0 l0 ≤ zof t k) := decide_eq_decide.2 e1
  have hd2 : decide (g2 ≤ 0) = decide (zof t k ≤ hiV n1 s1 l1) := decide_eq_decide.2 e2
  rw [Bool.decide_and, ← hd1, ← hd2] at hr
  clear u1 u2 u3 bA bB hB0 h1 h3 ea1 ea2 P1 P2 p1 p2 p3 r1 r2 v1 v2 hg1 hg2 e1 e2 hd1 hd2 q1 q2 q3
  cases hc1 : decide (g1 ≤ 0) with
  | false =>
    rw [hc1] at hr
    obtain rfl : r = false := by rw [← hr]; rfl
    clear hr
    obtain ⟨a0, a1, a2, a3, a4, a5, b0, b1⟩ := id hs
    go_enter Try.func14, Try.ntmps14
    go_wp2_with fail
    refine (M1.out _ Hb.out).mono ?_
    rintro e w1 ⟨rfl, hc⟩
    have hs := boxU_keep hs hc
    have Hb := Lib.hid (from_ Hb.out hc)
    clear a0 a1 a2 a3 a4 a5 b0 b1
    obtain ⟨a0, a1, a2, a3, a4, a5, b0, b1⟩ := id hs
    go_wp2_with fail
    refine (M2.out _ Hb.out).mono ?_
    rintro e w3 ⟨rfl, hc⟩
    have hs := boxU_keep hs hc
    have Hb := Lib.hid (from_ Hb.out hc)
    clear a0 a1 a2 a3 a4 a5 b0 b1
    obtain ⟨a0, a1, a2, a3, a4, a5, b0, b1⟩ := id hs
    have hal : Below w3.heap.size w3 (w3.alloc (.cells #[.int .i64 0, .bool t, .slice C k.length c] 64)).drew := ((Below.refl _ w3).alloc (Nat.le_refl _) _).drew
    have B3 := Box3.new w3 (.int .i64 0) (.bool t) (.slice C k.length c) 64
    have hs : (w3.alloc (.cells #[.int .i64 0, .bool t, .slice C k.length c] 64)).drew.cell? ⟨w.heap.size, 0, none⟩ = some (.bool n0) ∧ (w3.alloc (.cells #[.int .i64 0, .bool t, .slice C k.length c] 64)).drew.cell? ⟨w.heap.size, 1, none⟩ = some (.bool s0) ∧ (w3.alloc (.cells #[.int .i64 0, .bool t, .slice C k.length c] 64)).drew.cell? ⟨w.heap.size, 2, none⟩ = some (.slice A l0.length a) ∧ (w3.alloc (.cells #[.int .i64 0, .bool t, .slice C k.length c] 64)).drew.cell? ⟨w.heap.size, 3, none⟩ = some (.bool n1) ∧ (w3.alloc (.cells #[.int .i64 0, .bool t, .slice C k.length c] 64)).drew.cell? ⟨w.heap.size, 4, none⟩ = some (.bool s1) ∧ (w3.alloc (.cells #[.int .i64 0, .bool t, .slice C k.length c] 64)).drew.cell? ⟨w.heap.size, 5, none⟩ = some (.slice B l1.length b) ∧ (w3.alloc (.cells #[.int .i64 0, .bool t, .slice C k.length c] 64)).drew.cell? ⟨w3.heap.size, 0, none⟩ = some (.int .i64 0) ∧ (w3.alloc (.cells #[.int .i64 0, .bool t, .slice C k.length c] 64)).drew.cell? ⟨w3.heap.size, 1, none⟩ = some (.bool t) ∧ (w3.alloc (.cells #[.int .i64 0, .bool t, .slice C k.length c] 64)).drew.cell? ⟨w3.heap.size, 2, none⟩ = some (.slice C k.length c) := ⟨keepC hal a0, keepC hal a1, keepC hal a2, keepC hal a3, keepC hal a4, keepC hal a5, B3.c0, B3.c1, B3.c2⟩
    have Hc := Lib.hid (from_ Hb.out hal)
    clear hal B3 a0 a1 a2 a3 a4 a5
    go_wp2
    obtain ⟨a0, a1, a2, a3, a4, a5, b0, b1, b2⟩ := id hs
    (first | go_region_with (first
        | (go_at_call 37; (with_reducible refine (L1.out _).mono ?_); rintro e w2 ⟨rfl, hc2⟩; have hs := boxV_keep hs hc2; obtain ⟨a0, a1, a2, a3, a4, a5, b0, b1, b2⟩ := id hs; have Hc := Lib.hid (from_ Hc.out hc2))
        | (go_at_call 38; (with_reducible refine (L2.out _).mono ?_); rintro e w2 ⟨rfl, hc2⟩; have hs := boxV_keep hs hc2; obtain ⟨a0, a1, a2, a3, a4, a5, b0, b1, b2⟩ := id hs; have Hc := Lib.hid (from_ Hc.out hc2))
        | (go_at_call 36; (first | (with_reducible refine (C1.out _ Hc.out).mono ?_) | (with_reducible refine (C2.out _ Hc.out).mono ?_)); rintro e w2 ⟨rfl, hc2⟩; have hs := boxV_keep hs hc2; obtain ⟨a0, a1, a2, a3, a4, a5, b0, b1, b2⟩ := id hs; have Hc := Lib.hid (from_ Hc.out hc2))) | fail)
    all_goals
      go_wp2
      go_ret2
      exact ⟨rfl, Hc.out⟩
  | true =>
    rw [hc1, Bool.true_and] at hr
    obtain ⟨a0, a1, a2, a3, a4, a5, b0, b1⟩ := id hs
    go_enter Try.func14, Try.ntmps14
    go_wp2_with fail
    refine (M1.out _ Hb.out).mono ?_
    rintro e w1 ⟨rfl, hc⟩
    have hs := boxU_keep hs hc
    have Hb := Lib.hid (from_ Hb.out hc)
    clear a0 a1 a2 a3 a4 a5 b0 b1
    obtain ⟨a0, a1, a2, a3, a4, a5, b0, b1⟩ := id hs
    go_wp2_with fail
    refine (M2.out _ Hb.out).mono ?_
    rintro e w3 ⟨rfl, hc⟩
    have hs := boxU_keep hs hc
    have Hb := Lib.hid (from_ Hb.out hc)
    clear a0 a1 a2 a3 a4 a5 b0 b1
    obtain ⟨a0, a1, a2, a3, a4, a5, b0, b1⟩ := id hs
    have hal : Below w3.heap.size w3 (w3.alloc (.cells #[.int .i64 0, .bool t, .slice C k.length c] 64)).drew := ((Below.refl _ w3).alloc (Nat.le_refl _) _).drew
    have B3 := Box3.new w3 (.int .i64 0) (.bool t) (.slice C k.length c) 64
    have hs : (w3.alloc (.cells #[.int .i64 0, .bool t, .slice C k.length c] 64)).drew.cell? ⟨w.heap.size, 0, none⟩ = some (.bool n0) ∧ (w3.alloc (.cells #[.int .i64 0, .bool t, .slice C k.length c] 64)).drew.cell? ⟨w.heap.size, 1, none⟩ = some (.bool s0) ∧ (w3.alloc (.cells #[.int .i64 0, .bool t, .slice C k.length c] 64)).drew.cell? ⟨w.heap.size, 2, none⟩ = some (.slice A l0.length a) ∧ (w3.alloc (.cells #[.int .i64 0, .bool t, .slice C k.length c] 64)).drew.cell? ⟨w.heap.size, 3, none⟩ = some (.bool n1) ∧ (w3.alloc (.cells #[.int .i64 0, .bool t, .slice C k.length c] 64)).drew.cell? ⟨w.heap.size, 4, none⟩ = some (.bool s1) ∧ (w3.alloc (.cells #[.int .i64 0, .bool t, .slice C k.length c] 64)).drew.cell? ⟨w.heap.size, 5, none⟩ = some (.slice B l1.length b) ∧ (w3.alloc (.cells #[.int .i64 0, .bool t, .slice C k.length c] 64)).drew.cell? ⟨w3.heap.size, 0, none⟩ = some (.int .i64 0) ∧ (w3.alloc (.cells #[.int .i64 0, .bool t, .slice C k.length c] 64)).drew.cell? ⟨w3.heap.size, 1, none⟩ = some (.bool t) ∧ (w3.alloc (.cells #[.int .i64 0, .bool t, .slice C k.length c] 64)).drew.cell? ⟨w3.heap.size, 2, none⟩ = some (.slice C k.length c) := ⟨keepC hal a0, keepC hal a1, keepC hal a2, keepC hal a3, keepC hal a4, keepC hal a5, B3.c0, B3.c1, B3.c2⟩
    have Hc := Lib.hid (from_ Hb.out hal)
    clear hal B3 a0 a1 a2 a3 a4 a5
    go_wp2
    go_region_held3 (fun w' => w'.cell? ⟨w.heap.size, 0, none⟩ = some (.bool n0) ∧ w'.cell? ⟨w.heap.size, 1, none⟩ = some (.bool s0) ∧ w'.cell? ⟨w.heap.size, 2, none⟩ = some (.slice A l0.length a) ∧ w'.cell? ⟨w.heap.size, 3, none⟩ = some (.bool n1) ∧ w'.cell? ⟨w.heap.size, 4, none⟩ = some (.bool s1) ∧ w'.cell? ⟨w.heap.size, 5, none⟩ = some (.slice B l1.length b) ∧ w'.cell? ⟨w3.heap.size, 0, none⟩ = some (.int .i64 0) ∧ w'.cell? ⟨w3.heap.size, 1, none⟩ = some (.bool t) ∧ w'.cell? ⟨w3.heap.size, 2, none⟩ = some (.slice C k.length c))
      (first
        | (go_keep; done)
        | exact hs)
      (first
        | (go_at_call 37; (with_reducible refine (L1.out _).mono ?_); rintro e w2 ⟨rfl, hc2⟩; have hs := boxV_keep hs hc2; have Hc := Lib.hid (from_ Hc.out hc2))
        | (go_at_call 38; (with_reducible refine (L2.out _).mono ?_); rintro e w2 ⟨rfl, hc2⟩; have hs := boxV_keep hs hc2; have Hc := Lib.hid (from_ Hc.out hc2))
        | (go_at_call 36; (first | (with_reducible refine (C1.out _ Hc.out).mono ?_) | (with_reducible refine (C2.out _ Hc.out).mono ?_)); rintro e w2 ⟨rfl, hc2⟩; have hs := boxV_keep hs hc2; have Hc := Lib.hid (from_ Hc.out hc2)))
    all_goals
      go_wp2
      go_ret2
      exact ⟨rfl, Hc.out⟩

end Go.Proofs.Ytennphechbngcaa

namespace Go.Proofs.Ytennphechbngcaa
open Go.RowKit
set_option linter.unusedVariables false
set_option linter.unusedSimpArgs false

set_option maxRecDepth 100000 in
set_option maxHeartbeats 2000000 in
theorem ihas_bad {w : World} {Z1 Z2 Z3 : Zone} {n0 s0 n1 s1 t : Bool} {l0 l1 k : List Nat} {A B C : Option Addr} {a b c : Nat}
    (u1 : U64s w Z1 A a l0) (u2 : U64s w Z2 B b l1) (u3 : U64s w Z3 C c k)
    (q1 : l0.length ≤ 60) (q2 : l1.length ≤ 60) (q3 : k.length ≤ 60) (hb : ¬ (okA n0 s0 l0 n1 s1 l1 = true ∧ okI t k = true)) :
    Calls Try.prog 14 #[.agg #[.bool n0, .bool s0, .slice A l0.length a, .bool n1, .bool s1, .slice B l1.length b], .agg #[.bool t, .slice C k.length c]] w fun e w' => e = .returned (.tuple #[.bool false, .int .i64 8]) ∧ Below w.heap.size w w' := by
  obtain ⟨bA, bB, hB0⟩ := boxU w (.bool n0) (.bool s0) (.slice A l0.length a) (.bool n1) (.bool s1) (.slice B l1.length b) (.bool t) (.slice C k.length c) 29 25
  have Hb := Lib.hid hB0
  have hs := boxU_of bA bB
  have M1 := Lib.hid (fun (W : World) (h : Below w.heap.size w W) => icheck_any (n0 := n0) (s0 := s0) (n1 := n1) (s1 := s1) (u1.below h) (u2.below h) (by omega) (by omega))
  have M2 := Lib.hid (fun (W : World) (h : Below w.heap.size w W) => wcheck_any (a := .agg #[.bool t, .slice C k.length c]) ⟨_, rfl, C, c, rfl, u3.below h⟩)
  clear u1 u2 u3 bA bB hB0
  by_cases hp : okA n0 s0 l0 n1 s1 l1 = true
  · have hq : ¬ okI t k = true := fun h => hb ⟨hp, h⟩
    rw [show errA n0 s0 l0 n1 s1 l1 = 0 from if_pos hp] at M1
    rw [show errC t k = 8 from if_neg hq] at M2
    clear hb hp hq
    obtain ⟨a0, a1, a2, a3, a4, a5, b0, b1⟩ := id hs
    go_enter Try.func14, Try.ntmps14
    go_wp2_with fail
    refine (M1.out _ Hb.out).mono ?_
    rintro e w1 ⟨rfl, hc⟩
    have hs := boxU_keep hs hc
    have Hb := Lib.hid (from_ Hb.out hc)
    clear a0 a1 a2 a3 a4 a5 b0 b1
    obtain ⟨a0, a1, a2, a3, a4, a5, b0, b1⟩ := id hs
    go_wp2_with fail
    refine (M2.out _ Hb.out).mono ?_
    rintro e w1 ⟨rfl, hc⟩
    have hs := boxU_keep hs hc
    have Hb := Lib.hid (from_ Hb.out hc)
    clear a0 a1 a2 a3 a4 a5 b0 b1
    obtain ⟨a0, a1, a2, a3, a4, a5, b0, b1⟩ := id hs
    go_wp2
    go_ret2
    exact ⟨rfl, Hb.out⟩
  · rw [show errA n0 s0 l0 n1 s1 l1 = 8 from if_neg hp] at M1
    clear hb hp M2
    obtain ⟨a0, a1, a2, a3, a4, a5, b0, b1⟩ := id hs
    go_enter Try.func14, Try.ntmps14
    go_wp2_with fail
    refine (M1.out _ Hb.out).mono ?_
    rintro e w1 ⟨rfl, hc⟩
    have hs := boxU_keep hs hc
    have Hb := Lib.hid (from_ Hb.out hc)
    clear a0 a1 a2 a3 a4 a5 b0 b1
    obtain ⟨a0, a1, a2, a3, a4, a5, b0, b1⟩ := id hs
    go_wp2
    go_ret2
    exact ⟨rfl, Hb.out⟩

end Go.Proofs.Ytennphechbngcaa

namespace Go.Proofs.Ytennphechbngcaa
open Go.RowKit
set_option linter.unusedVariables false
set_option linter.unusedSimpArgs false

theorem r16top_p {w : World} :
    Calls Try.prog 26 #[] w fun e w' => e = .returned (.agg #[.bool true, .bool false, .slice none 0 0, .bool true, .bool false, .slice none 0 0]) ∧ Below w.heap.size w w' := by
  have hb0 := Lib.hid ((Below.refl _ w).alloc (Nat.le_refl _) (.cells #[.bool true, .bool false, .slice none 0 0, .bool true, .bool false, .slice none 0 0] 29))
  have hB := Lib.hid (Box6.new w (.bool true) (.bool false) (.slice none 0 0) (.bool true) (.bool false) (.slice none 0 0) 29)
  go_enter Try.func26, Try.ntmps26
  go_wp2
  refine bodyPost_ret (res_itv rfl _ w.heap.size rfl hB.out) rfl ?_
  exact ⟨rfl, hb0.out⟩

end Go.Proofs.Ytennphechbngcaa

namespace Go.Proofs.Ytennphechbngcaa
open Go.RowKit
set_option linter.unusedVariables false
set_option linter.unusedSimpArgs false

/-- An extended number: beyond all on one side, or within M. -/
def Ext (B M x : Int) : Prop := x = B ∨ x = -B ∨ (-M < x ∧ x < M)

def lo4 (a b c d : Int) : Int := min (min a b) (min c d)
def hi4 (a b c d : Int) : Int := max (max a b) (max c d)

/-- The sum of two, beyond on one side at most. -/
def plusE (B x y : Int) : Int := if x = -B ∨ y = -B then -B else if x = B ∨ y = B then B else x + y

/-- The product of two; with 0 it is 0. -/
def timesE (B x y : Int) : Int := if x = 0 ∨ y = 0 then 0 else if x = B ∨ x = -B ∨ y = B ∨ y = -B then (if (0 < x ↔ 0 < y) then B else -B) else x * y

/-- The quotient toward 0; by one beyond it is 0. -/
def overE (B x y : Int) : Int := if y = B ∨ y = -B then 0 else if x = B ∨ x = -B then (if (0 < x ↔ 0 < y) then B else -B) else Int.tdiv x y

theorem Ext.neg {B M x : Int} (h : Ext B M x) : Ext B M (-x) := by unfold Ext at *; omega

theorem tdiv_bd {M x y : Int} (hx : -M < x ∧ x < M) : -M < Int.tdiv x y ∧ Int.tdiv x y < M := by
  have h : (Int.tdiv x y).natAbs = x.natAbs / y.natAbs := Int.natAbs_tdiv x y
  have h2 := Nat.div_le_self x.natAbs y.natAbs
  generalize x.natAbs / y.natAbs = r at *
  generalize Int.tdiv x y = q at *
  omega

end Go.Proofs.Ytennphechbngcaa

namespace Go.Proofs.Ytennphechbngcaa
open Go.RowKit
set_option linter.unusedVariables false
set_option linter.unusedSimpArgs false

/-- Whether there is no low (high) end; an end's sign and words; a place's side. -/
def nLo (x : Int) : Bool := decide (x = -bigZ)
def nHi (x : Int) : Bool := decide (x = bigZ)
def sE (x : Int) : Bool := decide (-bigZ < x ∧ x < 0)
def lE (x : Int) : List Nat := if -bigZ < x ∧ x < bigZ then limbs x.natAbs else []
def bE (x : Int) : Int := if x = bigZ then 1 else if x = -bigZ then -1 else 0

theorem Pl.range {x b : Int} {s : Bool} {l : List Nat} (h : Pl x b s l) : -bigZ ≤ x ∧ x ≤ bigZ := by
  have := bigZ_pos
  rcases h with ⟨_, _, h1, h2⟩ | ⟨_, _, _, h⟩ | ⟨_, _, _, h⟩ <;> omega
theorem Pl.all {x : Int} (h : -bigZ ≤ x ∧ x ≤ bigZ) : Pl x (bE x) (sE x) (lE x) := by
  have := bigZ_pos
  unfold bE sE lE
  by_cases h1 : x = bigZ
  · rw [if_pos h1, if_neg (by omega)]
    exact Or.inr (Or.inl ⟨rfl, decide_eq_false (by omega), rfl, h1⟩)
  · by_cases h2 : x = -bigZ
    · rw [if_neg h1, if_pos h2, if_neg (by omega)]
      exact Or.inr (Or.inr ⟨rfl, decide_eq_false (by omega), rfl, h2⟩)
    · rw [if_neg h1, if_neg h2, if_pos (by omega)]
      exact Or.inl ⟨rfl, ⟨decide_eq_decide.2 (by omega), rfl⟩, by omega, by omega⟩
theorem Pl.uniq {x b : Int} {s : Bool} {l : List Nat} (h : Pl x b s l) : b = bE x ∧ s = sE x ∧ l = lE x := by
  have h0 := bigZ_pos
  unfold bE sE lE
  rcases h with ⟨rfl, ⟨rfl, rfl⟩, h1, h2⟩ | ⟨rfl, rfl, rfl, h⟩ | ⟨rfl, rfl, rfl, h⟩
  · rw [if_neg (by omega), if_neg (by omega), if_pos (by omega)]
    exact ⟨rfl, decide_eq_decide.2 (by omega), rfl⟩
  · rw [if_pos h, if_neg (by omega)]
    exact ⟨rfl, (decide_eq_false (by omega)).symm, rfl⟩
  · rw [if_neg (by omega), if_pos h, if_neg (by omega)]
    exact ⟨rfl, (decide_eq_false (by omega)).symm, rfl⟩
theorem Pl.nlo {x b : Int} {s : Bool} {l : List Nat} (h : Pl x b s l) (hx : x < bigZ) : (b != 0) = nLo x := by
  obtain ⟨rfl, _, _⟩ := h.uniq
  have h0 := bigZ_pos
  unfold bE nLo
  rw [if_neg (by omega)]
  by_cases h2 : x = -bigZ
  · rw [if_pos h2, decide_eq_true h2]; rfl
  · rw [if_neg h2, decide_eq_false h2]; rfl
theorem Pl.nhi {x b : Int} {s : Bool} {l : List Nat} (h : Pl x b s l) (hx : -bigZ < x) : (b != 0) = nHi x := by
  obtain ⟨rfl, _, _⟩ := h.uniq
  have h0 := bigZ_pos
  unfold bE nHi
  by_cases h2 : x = bigZ
  · rw [if_pos h2, decide_eq_true h2]; rfl
  · rw [if_neg h2, if_neg (by omega), decide_eq_false h2]; rfl

/-- The interval of two numbers. -/
def ivOf (x y : Int) : Iv := ⟨nLo x, sE x, lE x, nHi y, sE y, lE y⟩
def Iv.lo (p : Iv) : Int := loV p.n0 p.s0 p.l0
def Iv.hi (p : Iv) : Int := hiV p.n1 p.s1 p.l1
/-- Its ends' words are words, and not many. -/
structure Iv.fine (p : Iv) (N : Nat) : Prop where
  m0 : Small p.l0
  m1 : Small p.l1
  q0 : p.l0.length ≤ N
  q1 : p.l1.length ≤ N

theorem lo_range {n s : Bool} {l : List Nat} (hs : Small l) (hl : l.length ≤ 60) : -bigZ ≤ loV n s l ∧ loV n s l < bigZ := by
  have := zof_big (s := s) hs hl
  have := bigZ_pos
  cases n
  · show -bigZ ≤ zof s l ∧ zof s l < bigZ; omega
  · show -bigZ ≤ -bigZ ∧ -bigZ < bigZ; omega
theorem hi_range {n s : Bool} {l : List Nat} (hs : Small l) (hl : l.length ≤ 60) : -bigZ < hiV n s l ∧ hiV n s l ≤ bigZ := by
  have := zof_big (s := s) hs hl
  have := bigZ_pos
  cases n
  · show -bigZ < zof s l ∧ zof s l ≤ bigZ; omega
  · show -bigZ < bigZ ∧ bigZ ≤ bigZ; omega

theorem Iv.is {p : Iv} (h : p.ok = true) (hf : p.fine 60) : p = ivOf p.lo p.hi := by
  obtain ⟨n0, s0, l0, n1, s1, l1⟩ := p
  obtain ⟨h1, h2⟩ := okA_ends h
  obtain ⟨m0, m1, q0, q1⟩ := hf
  dsimp only at *
  have a0 := zof_big (s := s0) m0 q0
  have a1 := zof_big (s := s1) m1 q1
  obtain ⟨b, s', l', A', c', P⟩ := Plc.ex (-1) n0 s0 l0 none 0
  obtain ⟨d, t', k', B', e', Q⟩ := Plc.ex 1 n1 s1 l1 none 0
  have u := P.lo h1 m0 q0
  have v := Q.hi h2 m1 q1
  have hb := bigZ_pos
  have r1 := lo_range (n := n0) (s := s0) m0 q0
  have r2 := hi_range (n := n1) (s := s1) m1 q1
  have nu := u.nlo r1.2
  have nv := v.nhi r2.1
  obtain ⟨hb1, hs1, hl1⟩ := u.uniq
  obtain ⟨hb2, hs2, hl2⟩ := v.uniq
  unfold ivOf Iv.lo Iv.hi
  dsimp only
  rw [← nu, ← nv, ← hs1, ← hl1, ← hs2, ← hl2]
  have e1 : okE n0 s0 l0 = true → n0 = true → s0 = false ∧ l0 = [] := fun h hn => by subst hn; simpa [okE] using h
  have e2 : okE n1 s1 l1 = true → n1 = true → s1 = false ∧ l1 = [] := fun h hn => by subst hn; simpa [okE] using h
  rcases P with ⟨hn, hb', hs', hl', _, _⟩ | ⟨hn, hb', hs', hl', _, _⟩ <;> rcases Q with ⟨hn2, hb2', hs2', hl2', _, _⟩ | ⟨hn2, hb2', hs2', hl2', _, _⟩
  · obtain ⟨f1, f2⟩ := e1 h1 hn
    obtain ⟨f3, f4⟩ := e2 h2 hn2
    subst hn hb' hs' hl' hn2 hb2' hs2' hl2' f1 f2 f3 f4
    rfl
  · obtain ⟨f1, f2⟩ := e1 h1 hn
    subst hn hb' hs' hl' hn2 hb2' hs2' hl2' f1 f2
    rfl
  · obtain ⟨f3, f4⟩ := e2 h2 hn2
    subst hn hb' hs' hl' hn2 hb2' hs2' hl2' f3 f4
    rfl
  · subst hn hb' hs' hl' hn2 hb2' hs2' hl2'
    rfl

end Go.Proofs.Ytennphechbngcaa

namespace Go.Proofs.Ytennphechbngcaa
open Go.RowKit
set_option linter.unusedVariables false
set_option linter.unusedSimpArgs false

theorem BoxL.of6 {W : World} {g : Nat} {a b c d e f : Value} (h : Box6 W g a b c d e f) : BoxL W g [a, b, c, d, e, f] := by
  refine ⟨fun j v hv => ?_, fun j v hv => ?_, h.lt⟩ <;> rcases j with _ | _ | _ | _ | _ | _ | j <;> simp at hv <;> subst hv
  · exact h.c0
  · exact h.c1
  · exact h.c2
  · exact h.c3
  · exact h.c4
  · exact h.c5
  · exact h.f0
  · exact h.f1
  · exact h.f2
  · exact h.f3
  · exact h.f4
  · exact h.f5
theorem BoxL.six {W : World} {g : Nat} {a b c d e f : Value} (h : BoxL W g [a, b, c, d, e, f]) : Box6 W g a b c d e f :=
  ⟨h.c 0 _ rfl, h.c 1 _ rfl, h.c 2 _ rfl, h.c 3 _ rfl, h.c 4 _ rfl, h.c 5 _ rfl, h.f 0 _ rfl, h.f 1 _ rfl, h.f 2 _ rfl, h.f 3 _ rfl, h.f 4 _ rfl, h.f 5 _ rfl, h.lt⟩

/-- What is put into six cells. -/
structure Put6 (w W' : World) (g : Nat) (x0 x1 x2 x3 x4 x5 : Value) : Prop where
  box : Box6 W' g x0 x1 x2 x3 x4 x5
  bel : Below w.heap.size w W'
theorem Box6.put {w W : World} {g : Nat} {a b c d e f : Value} (h : Box6 W g a b c d e f) (hB : Below w.heap.size w W) (hg : w.heap.size ≤ g) (x0 x1 x2 x3 x4 x5 : Value) :
    Put6 w ((((((W.setCell ⟨g, 0, none⟩ x0).setCell ⟨g, 1, none⟩ x1).setCell ⟨g, 2, none⟩ x2).setCell ⟨g, 3, none⟩ x3).setCell ⟨g, 4, none⟩ x4).setCell ⟨g, 5, none⟩ x5) g x0 x1 x2 x3 x4 x5 :=
  ⟨BoxL.six ((((((((BoxL.of6 h).set 0 x0 rfl).set 1 x1 rfl).set 2 x2 rfl).set 3 x3 rfl).set 4 x4 rfl).set 5 x5 rfl)),
   (((((hB.setCell (p := ⟨g, 0, none⟩) hg _).setCell (p := ⟨g, 1, none⟩) hg _).setCell (p := ⟨g, 2, none⟩) hg _).setCell (p := ⟨g, 3, none⟩) hg _).setCell (p := ⟨g, 4, none⟩) hg _).setCell (p := ⟨g, 5, none⟩) hg _⟩
theorem U64s.set6 {W : World} {Z : Zone} {A : Option Addr} {c : Nat} {l : List Nat} (h : U64s W Z A c l) {g : Nat} (hz : ¬ Z.blk g) (x0 x1 x2 x3 x4 x5 : Value) :
    U64s ((((((W.setCell ⟨g, 0, none⟩ x0).setCell ⟨g, 1, none⟩ x1).setCell ⟨g, 2, none⟩ x2).setCell ⟨g, 3, none⟩ x3).setCell ⟨g, 4, none⟩ x4).setCell ⟨g, 5, none⟩ x5) Z A c l :=
  (((((h.set1 g 0 hz x0).set1 g 1 hz x1).set1 g 2 hz x2).set1 g 3 hz x3).set1 g 4 hz x4).set1 g 5 hz x5

theorem itop_p {w : World} :
    Calls Try.prog 25 #[] w fun e w' => e = .returned (.agg #[.bool true, .bool false, .slice none 0 0, .bool true, .bool false, .slice none 0 0]) ∧ Below w.heap.size w w' := by
  have hb0 := Lib.hid ((Below.refl _ w).alloc (Nat.le_refl _) (.cells #[.bool false, .bool false, .slice none 0 0, .bool false, .bool false, .slice none 0 0] 29))
  have hB := Lib.hid (Box6.new w (.bool false) (.bool false) (.slice none 0 0) (.bool false) (.bool false) (.slice none 0 0) 29)
  go_enter Try.func25, Try.ntmps25
  go_wp2_with fail
  refine (inone_p).mono ?_
  rintro e w1 ⟨rfl, hc1⟩
  go_wp2_with fail
  refine (inone_p).mono ?_
  rintro e w2 ⟨rfl, hc2⟩
  have hB2 := (hB.out.below hc1).below hc2
  have HP := Lib.hid (hB2.put (from_ (from_ hb0.out hc1) hc2) (Nat.le_refl _) (.bool true) (.bool false) (.slice none 0 0) (.bool true) (.bool false) (.slice none 0 0))
  obtain ⟨q0, q1, q2, q3, q4, q5, f0, f1, f2, f3, f4, f5, _⟩ := hB2
  go_wp2
  refine bodyPost_ret (res_itv rfl _ w.heap.size rfl HP.out.box) rfl ?_
  exact ⟨rfl, HP.out.bel⟩

theorem wof_p {w : World} {n : Int} {s : Bool} {l : List Nat} (h : Nm n s l) (hn : -9223372036854775808 ≤ n ∧ n ≤ 9223372036854775807) :
    Calls Try.prog 52 #[.int .i64 n] w fun e w' => ∃ A c, e = .returned (.agg #[.bool s, .slice A l.length c]) ∧ U64s w' (new w.heap.size) A c l ∧ Below w.heap.size w w' := by
  refine (wof_any hn).mono ?_
  rintro e w' ⟨v, rfl, hv, hb⟩
  obtain ⟨A, c, rfl, h1⟩ := h.of hv
  exact ⟨A, c, rfl, h1, hb⟩

theorem int_big {n : Int} (hn : -9223372036854775808 ≤ n ∧ n ≤ 9223372036854775807) : -bigZ < n ∧ n < bigZ := by
  have : (9223372036854775808 : Int) < bigZ := by
    unfold bigZ
    have h1 : (18446744073709551616 : Int) ^ 64 = 18446744073709551616 * 18446744073709551616 ^ 63 := by rw [← Int.pow_succ']
    have h2 : (0 : Int) < 18446744073709551616 ^ 63 := Int.pow_pos (by decide)
    rw [h1]
    omega
  omega
theorem nm_e {n : Int} (hn : -bigZ < n ∧ n < bigZ) : Nm n (sE n) (lE n) := by
  unfold sE lE
  rw [if_pos hn]
  exact ⟨decide_eq_decide.2 (by omega), rfl⟩
theorem nLo_no {n : Int} (hn : -bigZ < n) : nLo n = false := decide_eq_false (by omega)
theorem nHi_no {n : Int} (hn : n < bigZ) : nHi n = false := decide_eq_false (by omega)
theorem len_e {n : Int} (hn : -9223372036854775808 ≤ n ∧ n ≤ 9223372036854775807) : (lE n).length ≤ 1 := by
  unfold lE
  rw [if_pos (int_big hn)]
  exact len_limbs_le (by rw [Nat.pow_one]; omega)

set_option maxRecDepth 100000 in
set_option maxHeartbeats 1000000 in
theorem iof_good {w : World} {x y : Int} (hx : -9223372036854775808 ≤ x ∧ x ≤ 9223372036854775807) (hy : -9223372036854775808 ≤ y ∧ y ≤ 9223372036854775807) (h : x ≤ y) :
    Calls Try.prog 18 #[.int .i64 x, .int .i64 y] w fun e w' => ∃ A c B d, e = .returned (.tuple #[.agg #[.bool (nLo x), .bool (sE x), .slice A (lE x).length c, .bool (nHi y), .bool (sE y), .slice B (lE y).length d], .int .i64 0]) ∧ U64s w' (new w.heap.size) A c (lE x) ∧ U64s w' (new w.heap.size) B d (lE y) ∧ Below w.heap.size w w' := by
  have n1 := nm_e (int_big hx)
  have n2 := nm_e (int_big hy)
  have l1 := len_e hx
  have l2 := len_e hy
  rw [nLo_no (int_big hx).1, nHi_no (int_big hy).2]
  obtain ⟨s, hs⟩ : ∃ s, s = sE x := ⟨_, rfl⟩
  obtain ⟨l, hl⟩ : ∃ l, l = lE x := ⟨_, rfl⟩
  obtain ⟨t, ht⟩ : ∃ t, t = sE y := ⟨_, rfl⟩
  obtain ⟨k, hk⟩ : ∃ k, k = lE y := ⟨_, rfl⟩
  rw [← hs, ← hl] at n1
  rw [← ht, ← hk] at n2
  rw [← hl] at l1
  rw [← hk] at l2
  rw [← hs, ← hl, ← ht, ← hk]
  have N1 := Lib.hid n1
  have N2 := Lib.hid n2
  have Hx := Lib.hid hx
  have Hy := Lib.hid hy
  have hd : decide (y < x) = false := decide_eq_false (by omega)
  have hb0 := Lib.hid ((Below.refl _ w).alloc (Nat.le_refl _) (.cells #[.bool false, .bool false, .slice none 0 0, .bool false, .bool false, .slice none 0 0] 29))
  have hB := Lib.hid (Box6.new w (.bool false) (.bool false) (.slice none 0 0) (.bool false) (.bool false) (.slice none 0 0) 29)
  clear n1 n2 hs hl ht hk hx hy h
  go_enter Try.func18, Try.ntmps18
  go_wp2_with fail
  refine (wof_p N1.out Hx.out).mono ?_
  rintro e w1 ⟨A1, c1, rfl, u1, hc1⟩
  have H1 := Lib.hid (from_ hb0.out hc1)
  have B1 := Lib.hid (hB.out.below hc1)
  go_wp2_with fail
  refine (iat_p u1 (by omega)).mono ?_
  rintro e w2 ⟨A2, c2, rfl, u2, hc2⟩
  have H2 := Lib.hid (from_ H1.out hc2)
  have B2 := Lib.hid (B1.out.below hc2)
  clear u1
  go_wp2_with fail
  refine (wof_p N2.out Hy.out).mono ?_
  rintro e w3 ⟨A3, c3, rfl, u3, hc3⟩
  have H3 := Lib.hid (from_ H2.out hc3)
  have B3 := Lib.hid (B2.out.below hc3)
  go_wp2_with fail
  refine (iat_p u3 (by omega)).mono ?_
  rintro e w4 ⟨A4, c4, rfl, u4, hc4⟩
  have H4 := Lib.hid (from_ H3.out hc4)
  have B4 := B3.out.below hc4
  have HP := Lib.hid (B4.put H4.out (Nat.le_refl _) (.bool false) (.bool s) (.slice A2 l.length c2) (.bool false) (.bool t) (.slice A4 k.length c4))
  have s1 := B1.out.lt
  have s3 := B3.out.lt
  have U2 := Lib.hid ((((u2.below hc3).below hc4).set6 (g := w.heap.size) (fun (h : w1.heap.size ≤ w.heap.size) => by omega) (.bool false) (.bool s) (.slice A2 l.length c2) (.bool false) (.bool t) (.slice A4 k.length c4)).mono (new_le (Nat.le_of_lt s1)))
  have U4 := Lib.hid ((u4.set6 (g := w.heap.size) (fun (h : w3.heap.size ≤ w.heap.size) => by omega) (.bool false) (.bool s) (.slice A2 l.length c2) (.bool false) (.bool t) (.slice A4 k.length c4)).mono (new_le (Nat.le_of_lt s3)))
  obtain ⟨q0, q1, q2, q3, q4, q5, f0, f1, f2, f3, f4, f5, _⟩ := B4
  clear u2 u3 u4 hc1 hc2 hc3 hc4 s1 s3
  go_wp2
  refine bodyPost_ret (res_itv2 rfl _ w.heap.size rfl HP.out.box) rfl ?_
  exact ⟨_, _, _, _, rfl, U2.out, U4.out, HP.out.bel⟩

theorem iof_bad {w : World} {x y : Int} (h : y < x) :
    Calls Try.prog 18 #[.int .i64 x, .int .i64 y] w fun e w' => e = .returned (.tuple #[.agg #[.bool false, .bool false, .slice none 0 0, .bool false, .bool false, .slice none 0 0], .int .i64 2]) ∧ Below w.heap.size w w' := by
  have hd : decide (y < x) = true := decide_eq_true h
  have hb0 := Lib.hid ((Below.refl _ w).alloc (Nat.le_refl _) (.cells #[.bool false, .bool false, .slice none 0 0, .bool false, .bool false, .slice none 0 0] 29))
  have hB := Lib.hid (Box6.new w (.bool false) (.bool false) (.slice none 0 0) (.bool false) (.bool false) (.slice none 0 0) 29)
  clear h
  go_enter Try.func18, Try.ntmps18
  go_wp2
  refine bodyPost_ret (res_itv2 rfl _ w.heap.size rfl hB.out) rfl ?_
  exact ⟨rfl, hb0.out⟩

/-- A box of two and one of six. -/
theorem boxV (w : World) (b0 b1 a0 a1 a2 a3 a4 a5 : Value) (t u : TypeId) :
    Box ((w.alloc (.cells #[b0, b1] t)).alloc (.cells #[a0, a1, a2, a3, a4, a5] u)) w.heap.size b0 b1 ∧
    Box6 ((w.alloc (.cells #[b0, b1] t)).alloc (.cells #[a0, a1, a2, a3, a4, a5] u)) (w.heap.size + 1) a0 a1 a2 a3 a4 a5 ∧
    Below w.heap.size w ((w.alloc (.cells #[b0, b1] t)).alloc (.cells #[a0, a1, a2, a3, a4, a5] u)) := by
  have h1 := (Box.new w b0 b1 t).alloc (.cells #[a0, a1, a2, a3, a4, a5] u)
  have h2 := Box6.new (w.alloc (.cells #[b0, b1] t)) a0 a1 a2 a3 a4 a5 u
  rw [show (w.alloc (.cells #[b0, b1] t)).heap.size = w.heap.size + 1 by simp] at h2
  exact ⟨h1, h2, ((Below.refl _ w).alloc (Nat.le_refl _) _).alloc (by simp) _⟩

theorem st6 {w : World} {g i b : Nat} {v x0 x1 x2 x3 x4 x5 : Value} (h : w.cell? ⟨g, i, none⟩ = some v) (hn : b ≠ g) : ((((((w.setCell ⟨b, 0, none⟩ x0).setCell ⟨b, 1, none⟩ x1).setCell ⟨b, 2, none⟩ x2).setCell ⟨b, 3, none⟩ x3).setCell ⟨b, 4, none⟩ x4).setCell ⟨b, 5, none⟩ x5).cell? ⟨g, i, none⟩ = some v := by
  rw [World.cell?_setCell_other _ _ _ _ (fun e => hn (by injection e)), World.cell?_setCell_other _ _ _ _ (fun e => hn (by injection e)), World.cell?_setCell_other _ _ _ _ (fun e => hn (by injection e)), World.cell?_setCell_other _ _ _ _ (fun e => hn (by injection e)), World.cell?_setCell_other _ _ _ _ (fun e => hn (by injection e)), World.cell?_setCell_other _ _ _ _ (fun e => hn (by injection e))]
  exact h

set_option maxRecDepth 100000 in
set_option maxHeartbeats 2000000 in
theorem ipoint_good {w : World} {Z : Zone} {s : Bool} {l : List Nat} {A : Option Addr} {c : Nat} (u : U64s w Z A c l) (hk : okI s l = true) (hl : l.length ≤ 100000000000) :
    Calls Try.prog 20 #[.agg #[.bool s, .slice A l.length c]] w fun e w' => ∃ A1 c1 A2 c2, e = .returned (.tuple #[.agg #[.bool false, .bool s, .slice A1 l.length c1, .bool false, .bool s, .slice A2 l.length c2], .int .i64 0]) ∧ U64s w' (new w.heap.size) A1 c1 l ∧ U64s w' (new w.heap.size) A2 c2 l ∧ Below w.heap.size w w' := by
  obtain ⟨bA, bR, hB0⟩ := boxV w (.bool s) (.slice A l.length c) (.bool false) (.bool false) (.slice none 0 0) (.bool false) (.bool false) (.slice none 0 0) 25 29
  have hck := wcheck_any (a := .agg #[.bool s, .slice A l.length c]) ⟨_, rfl, A, c, rfl, u.below hB0⟩
  rw [show errC s l = 0 by simp [errC, hk]] at hck
  have Hck := Lib.hid hck
  have HA := Lib.hid bA
  have HR := Lib.hid bR
  have HB := Lib.hid hB0
  have HU := Lib.hid u
  obtain ⟨a0, a1, _, _, _⟩ := bA
  clear hck u bR hB0
  go_enter Try.func20, Try.ntmps20
  go_wp2_with fail
  refine Hck.out.mono ?_
  rintro e w1 ⟨rfl, hc⟩
  have H1 := Lib.hid ((from_ HB.out hc).drew)
  have R1 := Lib.hid (HR.out.below hc.drew)
  have s0 := (show w1.drew.cell? ⟨w.heap.size, 0, none⟩ = _ from keepC hc.drew a0)
  have s1 := (show w1.drew.cell? ⟨w.heap.size, 1, none⟩ = _ from keepC hc.drew a1)
  have C1 := Lib.hid (fun (W : World) (h : Below w.heap.size w W) => iat_p (s := s) (HU.out.below h) hl)
  clear a0 a1
  go_wp2
  go_region_held3 (fun w' => w'.cell? ⟨w.heap.size, 0, none⟩ = some (.bool s) ∧ w'.cell? ⟨w.heap.size, 1, none⟩ = some (.slice A l.length c))
    (first
      | (go_keep; done)
      | exact ⟨t0, t1⟩
      | exact ⟨r0, r1⟩
      | exact ⟨st6 r0 (by omega), st6 r1 (by omega)⟩)
    (first
      | (go_at_call 51; with_reducible refine (C1.out _ H1.out).mono ?_; rintro e w2 ⟨A1, c1, rfl, u1, hc1⟩; have t0 := keepC hc1 s0; have t1 := keepC hc1 s1; have H2 := Lib.hid (from_ H1.out hc1); have R2 := Lib.hid (R1.out.below hc1))
      | (go_at_call 51; with_reducible refine (C1.out _ H2.out).mono ?_; rintro e w3 ⟨A2, c2, rfl, u2, hc2⟩; have r0 := keepC hc2 t0; have r1 := keepC hc2 t1; have H3 := Lib.hid (from_ H2.out hc2); have R3 := Lib.hid (R2.out.below hc2); have q1 := u1.below hc2; obtain ⟨g0, g1, g2, g3, g4, g5, f0, f1, f2, f3, f4, f5, _⟩ := id R3.out))
  all_goals
    have z1 := R1.out.lt
    have z2 := R2.out.lt
    have HP := Lib.hid (R3.out.put H3.out (by omega) (.bool false) (.bool s) (.slice A1 l.length c1) (.bool false) (.bool s) (.slice A2 l.length c2))
    have U1 := Lib.hid ((q1.set6 (g := w.heap.size + 1) (fun (h : _ ≤ w.heap.size + 1) => by omega) (.bool false) (.bool s) (.slice A1 l.length c1) (.bool false) (.bool s) (.slice A2 l.length c2)).mono (new_le H1.out.size))
    have U2 := Lib.hid ((u2.set6 (g := w.heap.size + 1) (fun (h : _ ≤ w.heap.size + 1) => by omega) (.bool false) (.bool s) (.slice A1 l.length c1) (.bool false) (.bool s) (.slice A2 l.length c2)).mono (new_le H2.out.size))
    clear u1 u2 q1 z1 z2
    go_wp2
    refine bodyPost_ret (res_itv2 rfl _ (w.heap.size + 1) rfl HP.out.box) rfl ?_
    exact ⟨_, _, _, _, rfl, U1.out, U2.out, HP.out.bel⟩

theorem ipoint_bad {w : World} {Z : Zone} {s : Bool} {l : List Nat} {A : Option Addr} {c : Nat} (u : U64s w Z A c l) (hk : okI s l = false) :
    Calls Try.prog 20 #[.agg #[.bool s, .slice A l.length c]] w fun e w' => e = .returned (.tuple #[.agg #[.bool false, .bool false, .slice none 0 0, .bool false, .bool false, .slice none 0 0], .int .i64 8]) ∧ Below w.heap.size w w' := by
  obtain ⟨bA, bR, hB0⟩ := boxV w (.bool s) (.slice A l.length c) (.bool false) (.bool false) (.slice none 0 0) (.bool false) (.bool false) (.slice none 0 0) 25 29
  have hck := wcheck_any (a := .agg #[.bool s, .slice A l.length c]) ⟨_, rfl, A, c, rfl, u.below hB0⟩
  rw [show errC s l = 8 by simp [errC, hk]] at hck
  have Hck := Lib.hid hck
  have HR := Lib.hid bR
  have HB := Lib.hid hB0
  obtain ⟨a0, a1, _, _, _⟩ := bA
  clear hck u bR hB0 hk
  go_enter Try.func20, Try.ntmps20
  go_wp2_with fail
  refine Hck.out.mono ?_
  rintro e w1 ⟨rfl, hc⟩
  have R1 := HR.out.below hc
  have HP := Lib.hid (R1.put (from_ HB.out hc) (by omega) (.bool false) (.bool false) (.slice none 0 0) (.bool false) (.bool false) (.slice none 0 0))
  obtain ⟨q0, q1, q2, q3, q4, q5, f0, f1, f2, f3, f4, f5, _⟩ := R1
  go_wp2
  refine bodyPost_ret (res_itv2 rfl _ (w.heap.size + 1) rfl HP.out.box) rfl ?_
  exact ⟨rfl, HP.out.bel⟩

/-- A place the other way round, in new memory. -/
theorem iturned_p {w : World} {Z : Zone} {x b b' : Int} {s s' : Bool} {l l' : List Nat} {A : Option Addr} {c : Nat} (h : Pl x b s l) (h' : Pl (-x) b' s' l') (u : U64s w Z A c l) (hl : l.length ≤ 9000) :
    Calls Try.prog 49 #[.agg #[.int .i64 b, .bool s, .slice A l.length c]] w fun e w' => ∃ A' c', e = .returned (.agg #[.int .i64 b', .bool s', .slice A' l'.length c']) ∧ U64s w' (new w.heap.size) A' c' l' ∧ Below w.heap.size w w' := by
  have hbb : b' = -b ∧ (b = -1 ∨ b = 0 ∨ b = 1) := by
    have e1 := h.uniq.1
    have e2 := h'.uniq.1
    have := bigZ_pos
    have r := h.range
    rw [e1, e2]
    unfold bE
    split <;> split <;> (try split) <;> (try split) <;> omega
  have hN : ∃ x', Nm x' s l ∧ Nm (-x') s' l' := by
    rcases h with ⟨rfl, n1, r1, r2⟩ | ⟨rfl, rfl, rfl, hx⟩ | ⟨rfl, rfl, rfl, hx⟩
    · rcases h' with ⟨_, n2, _⟩ | ⟨h, _, _, hx⟩ | ⟨h, _, _, hx⟩
      · exact ⟨x, n1, n2⟩
      · omega
      · omega
    · rcases h' with ⟨h, n2, _⟩ | ⟨h, rfl, rfl, hx⟩ | ⟨h, rfl, rfl, hx⟩
      · omega
      · omega
      · exact ⟨0, ⟨rfl, rfl⟩, ⟨rfl, rfl⟩⟩
    · rcases h' with ⟨h, n2, _⟩ | ⟨h, rfl, rfl, hx⟩ | ⟨h, rfl, rfl, hx⟩
      · omega
      · exact ⟨0, ⟨rfl, rfl⟩, ⟨rfl, rfl⟩⟩
      · omega
  obtain ⟨x', n1, n2⟩ := hN
  obtain ⟨rfl, hb⟩ := hbb
  obtain ⟨bA, bR, hB0⟩ := boxQ w (.int .i64 b) (.bool s) (.slice A l.length c) (.int .i64 0) (.bool false) (.slice none 0 0) 64 64
  have Hc := Lib.hid (wneg_n n1 n2 rfl (by omega) (u.below hB0))
  have HA := Lib.hid bA
  have HR := Lib.hid bR
  have HB := Lib.hid hB0
  obtain ⟨a0, a1, a2, _, _, _, _⟩ := bA
  clear u bR hB0 n1 n2 h h'
  have hw : IntKind.i64.wrap (-b) = -b := by rcases hb with rfl | rfl | rfl <;> rfl
  go_enter Try.func49, Try.ntmps49
  go_wp2_with fail
  refine Hc.out.mono ?_
  rintro e w1 ⟨Av, cv, rfl, u1, hc⟩
  have z1 := (HR.out.below hc).lt
  have HP := Lib.hid ((HR.out.below hc).put (from_ HB.out hc) (by omega) (.int .i64 (-b)) (.bool s') (.slice Av l'.length cv))
  have hal := Lib.hid ((Below.refl _ (((w1.setCell ⟨w.heap.size + 1, 0, none⟩ (.int .i64 (-b))).setCell ⟨w.heap.size + 1, 1, none⟩ (.bool s')).setCell ⟨w.heap.size + 1, 2, none⟩ (.slice Av l'.length cv))).alloc (Nat.le_refl _) (.cells #[.bool s', .slice Av l'.length cv] 25))
  have U1 := Lib.hid (((HP.out.keep (fun (h : _ ≤ w.heap.size + 1) => by have := HR.out.lt; omega) u1).mono (new_le HB.out.size)).below hal.out)
  obtain ⟨p0, p1, p2, _⟩ := HA.out.below hc
  obtain ⟨q0, q1, q2, f0, f1, f2, _⟩ := HR.out.below hc
  have z0 : w.heap.size < w1.heap.size := by omega
  have y0 : ¬ w1.heap.size = w.heap.size := by omega
  have y1 : ¬ w1.heap.size = w.heap.size + 1 := by omega
  have y2 : ¬ w.heap.size + 1 = w1.heap.size := by omega
  have y3 : ¬ w.heap.size = w1.heap.size := by omega
  clear u1 hc
  go_wp2
  refine bodyPost_ret (res_place rfl _ (w.heap.size + 1) rfl (keepC hal.out HP.out.c0) (keepC hal.out HP.out.c1) (keepC hal.out HP.out.c2)) rfl ?_
  exact ⟨_, _, rfl, U1.out, from_ HP.out.bel hal.out⟩

end Go.Proofs.Ytennphechbngcaa
