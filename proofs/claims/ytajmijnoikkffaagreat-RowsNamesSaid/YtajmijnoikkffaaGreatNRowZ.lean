/-
  append to a row of one's own: the row lies where it lay, or in new memory; rows of whole numbers that grow so. No conditions.
  Rows of whole numbers: vec.Twin, vec.Content, vec.Prime. No conditions but bounds on lengths.
  Rows of whole numbers: vec.Prime; contents and lowest terms, the plain laws. No conditions but bounds on lengths.
  Lists of rows, the plain law: pivots, spans, echelon forms. No conditions.
  Lists of rows, the plain law: the echelon form that grows. No conditions.
  Lists of rows, the plain law: kernels. No conditions.
  Lists of rows: how long the numbers of a kernel are. No conditions.
  Rows of numbers in memory, told by their numbers: Prime, Mix, Scale, Neg. No conditions but bounds on lengths.
  Lists of rows: rows.places, pivot, before, without. No conditions but bounds on lengths.
  Lists of rows: rows.without, rest. No conditions but bounds on lengths.
  Lists of rows: rest. No conditions but bounds on lengths.
  Lists of rows: a row of numbers of one's own that is put together. No conditions.
-/
import Derived.Deep.RegionLaw
import Derived.Deep.RegionHeld3
import Derived.RangeFuncNested
import Derived.RangeFuncBound
import Derived.RangeFuncCalls
import Derived.RangeFuncLeaves
import Derived.RangeFuncBox
import Derived.Shelf.Abstract
import Derived.Shelf.RegionOpen
import Derived.WalkKit
import Derived.OwnWalkIn
import Derived.TacticsInMore
import Derived.LoopNIn
import Derived.LoopIn
import Derived.Maps.AppendAt
import Derived.Test.YtajmijnoikkffaaGreatNVecC
import Derived.Test.YtajmijnoikkffaaGreatNVecM
import Derived.Test.YtajmijnoikkffaaGreatNGcdA
import Derived.Test.YtajmijnoikkffaaGreatNWhO
import Derived.Test.YtajmijnoikkffaaGreatNCmpB
namespace Go.Proofs.YtajmijnoikkffaaGreat
open Go.RowKit
set_option linter.unusedVariables false
set_option linter.unusedSimpArgs false

/-- The row's block stays, or is a new one. -/
def Fresh (w : World) (v v' : Value) : Prop := v'.ownBlock = v.ownBlock ∨ ∀ k, v'.ownBlock = some k → w.heap.size ≤ k

theorem append_fresh {P : Program} (w : World) (base : Nat) (t ty e : TypeId) (i : TypeInfo) (z : Value) (size bytes : Nat) (ht : P.underlying t = some (.slice e)) (hi : P.info? e = some i) (hz : i.zero = some z)
    (hsize : i.size = size) (hby : i.bytes = bytes) (hzs : z.cells.size = size) (hsz : 0 < size)
    (v : Value) (n : Nat) (xs : List Value) (hown : w.ownsRow base e size v n xs)
    (a : Addr) (m c : Nat) (news : List Value) (hl : news.length = m * size) (hnews : ∀ j u, news[j]? = some u → w.cell? (a.add j) = some u) (h1 : ∀ u ∈ news, u.oneCell' = true)
    (h63 : n + m ≤ maxLen) (hbytes : (n + m) * bytes ≤ 140737488355328) (hbase : base ≤ w.heap.size) :
    ∃ v' w', (Builtin.append_ #[t, t] ty #[v, .slice (some a) m c]).run P w = .ok v' w' ∧ w'.ownsRow base e size v' (n + m) (xs ++ news) ∧ w.grownBy w' v.ownBlock ∧ Fresh w v v' := by
  obtain ⟨v', w', hr, h2, h3, _⟩ := run_append_own (P := P) w base t ty e i z size bytes ht hi hz hsize hby hzs hsz v n xs hown a m c news hl hnews h1 h63 hbytes hbase
  refine ⟨v', w', hr, h2, h3, ?_⟩
  have hcase := hown.2
  rcases hcase with ⟨rfl, rfl⟩ | ⟨g, cap, cur, rfl, hbg, hg, hnc, hcm, hcs, htake⟩
  · right
    have hx : xs = [] := List.eq_nil_of_length_eq_zero (by simpa using hown.1)
    subst hx
    obtain ⟨v2, w2, hr2, h4, _, _⟩ := run_append_own (P := P) w w.heap.size t ty e i z size bytes ht hi hz hsize hby hzs hsz (.slice none 0 0) 0 [] (World.ownsRow_nil _ _ _ _) a m c news hl hnews h1 h63 hbytes (Nat.le_refl _)
    rw [hr] at hr2
    injection hr2 with e1 e2
    subst e1 e2
    exact fun k hk => (h4.lt k hk).1
  · by_cases hroom : n + m ≤ cap
    · left
      have hfit : n * i.size + news.length ≤ cur.size := by rw [hl, hcs, hsize, ← Nat.add_mul]; exact Nat.mul_le_mul_right _ hroom
      have hr2 := run_append_room (P := P) w t ty e i ht hi g n cap cur hg a m c news (by rw [hsize]; exact hl) hnews h1 hroom hfit
      rw [hr] at hr2
      injection hr2 with e1 e2
      rw [e1]
      rfl
    · right
      have holds : ∀ j u, xs[j]? = some u → w.cell? ((⟨g, 0, none⟩ : Addr).add j) = some u := hown.cells (g := g) rfl
      have hr2 := run_append_grow (P := P) w t ty e i z ht hi hz ⟨g, 0, none⟩ n cap xs (by rw [hsize]; exact hown.1) holds a m c news (by rw [hsize]; exact hl) hnews (by omega) (by simp only [maxLen] at h63; omega) (growslice_fits (by omega) (by rw [hby]; exact hbytes))
      rw [hr] at hr2
      injection hr2 with e1 e2
      rw [e1]
      intro k hk
      simp [Value.ownBlock] at hk
      omega

/-- append of one thing to a row of the call's own. -/
theorem wpList_appF {P : Program} (w : World) {ops : Array Oper} {rest : List Oper} {o : Oper} {a : Act} {Q : Exit → Act → World → Prop} (hgd : o.guard = none) (s x : Operand) (t : TypeId)
    (ho : o.op = .call { callee := .builtin .append, args := #[s, x], argTypes := #[t, t] })
    (base : Nat) (e : TypeId) (i : TypeInfo) (z : Value) (size bytes : Nat) (ht : P.underlying t = some (.slice e)) (hi : P.info? e = some i) (hz : i.zero = some z) (hsize : i.size = size) (hby : i.bytes = bytes) (hzs : z.cells.size = size) (hsz : 0 < size) (hbb : bytes ≤ 1000)
    (v : Value) (n : Nat) (xs : List Value) (hs : a.eval s = v) (hown : w.ownsRow base e size v n xs)
    (g : Nat) (news : List Value) (hx : a.eval x = .slice (some ⟨g, 0, none⟩) 1 1) (hl : news.length = size) (hc : ∀ j u, news[j]? = some u → w.cell? ⟨g, j, none⟩ = some u) (h1 : ∀ u ∈ news, u.oneCell' = true)
    (hb : n + 1 ≤ 1000000000) (hbase : base ≤ w.heap.size)
    (h : ∀ v' w', w'.ownsRow base e size v' (n + 1) (xs ++ news) → w.grownBy w' v.ownBlock → Fresh w v v' → wpList P ops Q rest (a.put o.dst v') w') : wpList P ops Q (o :: rest) a w := by
  refine wpList_plain hgd fun _ hK => ?_
  have hbt : (n + 1) * bytes ≤ 140737488355328 := Nat.le_trans (Nat.mul_le_mul hb hbb) (by omega)
  obtain ⟨v', w', hrun, r1, r2, r3⟩ := append_fresh (P := P) w base t o.type e i z size bytes ht hi hz hsize hby hzs hsz v n xs hown ⟨g, 0, none⟩ 1 1 news (by omega) (fun j u hu => by rw [Addr.add_lit, Nat.zero_add]; exact hc j u hu) h1 (by simp only [maxLen]; omega) hbt hbase
  unfold Oper.wp
  simp [execOp, ho, resolve, invoke, builtin, hs, hx, hrun, Result.andThen]
  exact hK _ _ (h v' w' r1 r2 r3)

/-- The same, as one step of a region that draws its order. -/
theorem step_appF {P : Program} {ops : Array Oper} {o : Oper} {a : Act} {w : World} {K : Act → World → Prop} {Q : Exit → Act → World → Prop} {E : Prop}
    (hg : o.guard = none) (s x : Operand) (t : TypeId) (hop : o.op = Op.call { callee := Callee.builtin Builtin.append, args := #[s, x], argTypes := #[t, t] })
    (base : Nat) (e : TypeId) (i : TypeInfo) (z : Value) (size bytes : Nat) (ht : P.underlying t = some (.slice e)) (hi : P.info? e = some i) (hz : i.zero = some z) (hsize : i.size = size) (hby : i.bytes = bytes) (hzs : z.cells.size = size) (hsz : 0 < size) (hbb : bytes ≤ 1000)
    (v : Value) (n : Nat) (xs : List Value) (hs : a.eval s = v) (hown : w.ownsRow base e size v n xs)
    (g : Nat) (news : List Value) (hx : a.eval x = .slice (some ⟨g, 0, none⟩) 1 1) (hl : news.length = size) (hc : ∀ j u, news[j]? = some u → w.cell? ⟨g, j, none⟩ = some u) (h1 : ∀ u ∈ news, u.oneCell' = true)
    (hb : n + 1 ≤ 1000000000) (hbase : base ≤ w.heap.size)
    (hK : ∀ v' w', w'.ownsRow base e size v' (n + 1) (xs ++ news) → w.grownBy w' v.ownBlock → Fresh w v v' → K (a.put o.dst v') w') :
    if Region.wanted o (yielded ops a.tmps) = true then Oper.wp P o a w K Q else E := by
  have hw : Region.wanted o (yielded ops a.tmps) = true := by simp [Region.wanted, hg]
  rw [if_pos hw]
  have hbt : (n + 1) * bytes ≤ 140737488355328 := Nat.le_trans (Nat.mul_le_mul hb hbb) (by omega)
  obtain ⟨v', w', hrun, r1, r2, r3⟩ := append_fresh (P := P) w base t o.type e i z size bytes ht hi hz hsize hby hzs hsz v n xs hown ⟨g, 0, none⟩ 1 1 news (by omega) (fun j u hu => by rw [Addr.add_lit, Nat.zero_add]; exact hc j u hu) h1 (by simp only [maxLen]; omega) hbt hbase
  unfold Oper.wp
  simp [execOp, hop, resolve, invoke, builtin, hs, hx, hrun, Result.andThen]
  exact hK v' w' r1 r2 r3

/-- From block B on, but not in the row's own block. -/
def newX (B : Nat) (v : Value) : Zone := ⟨fun b => B ≤ b ∧ v.ownBlock ≠ some b, True⟩
theorem newX_le (B : Nat) (v : Value) : (newX B v).le (new B) := ⟨fun _ h => h.1, fun h => h⟩
theorem U64s.toX {w : World} {B K : Nat} {v : Value} {A : Option Addr} {c : Nat} {l : List Nat} (h : U64s w (new K) A c l) (hv : ∀ k, v.ownBlock = some k → k < K) (hB : B ≤ K) : U64s w (newX B v) A c l :=
  h.mono ⟨fun b hb => ⟨Nat.le_trans hB hb, fun e => by have h1 := hv b e; have h2 : K ≤ b := hb; omega⟩, fun h => h⟩
theorem U64s.grow {w w' : World} {B : Nat} {v v' : Value} {A : Option Addr} {c : Nat} {l : List Nat} (h : U64s w (newX B v) A c l) (hg : w.grownBy w' v.ownBlock) (hf : Fresh w v v') : U64s w' (newX B v') A c l := by
  have h1 := h.keep (w' := w') fun b hb hl => hg.block b hl (fun e => hb.2 e.symm)
  refine ⟨h1.small, h1.cap, h1.max, h1.nul, fun h0 => ?_⟩
  obtain ⟨b, o, e, hb, hfz, hc⟩ := h1.row h0
  obtain ⟨b2, o2, e2, hb2, _, hc2⟩ := h.row h0
  rw [e] at e2
  injection e2 with e2
  injection e2 with e3 e4
  subst e3 e4
  have hlt := lt_of_cell (hc2 0 _ (List.getElem?_eq_getElem h0))
  refine ⟨b, o, e, ⟨hb.1, fun e5 => ?_⟩, hfz, hc⟩
  rcases hf with h3 | h3
  · exact hb.2 (h3.symm.trans e5)
  · have h4 := h3 b e5
    have h5 : b < w.heap.size := hlt
    omega

/-- The row's cells in which the first k numbers stand. -/
def CellsF (w : World) (B : Nat) (v : Value) (xs : List Value) (k : Nat) (qs : List (Bool × List Nat)) : Prop :=
  ∀ j (hj : j < qs.length), j < k → ∃ A c, xs[j * 2]? = some (.bool qs[j].1) ∧ xs[j * 2 + 1]? = some (.slice A qs[j].2.length c) ∧ U64s w (newX B v) A c qs[j].2
theorem CellsF.zero (w : World) (B : Nat) (v : Value) (xs : List Value) (qs : List (Bool × List Nat)) : CellsF w B v xs 0 qs := fun j _ h => absurd h (by omega)
theorem CellsF.below {w w' : World} {B : Nat} {v : Value} {xs : List Value} {k : Nat} {qs : List (Bool × List Nat)} (h : CellsF w B v xs k qs) (hb : Below w.heap.size w w') : CellsF w' B v xs k qs := fun j hj hjk => by
  obtain ⟨A, c, c0, c1, hu⟩ := h j hj hjk
  exact ⟨A, c, c0, c1, hu.below hb⟩
theorem CellsF.grow {w w' : World} {B : Nat} {v v' : Value} {xs : List Value} {k : Nat} {qs : List (Bool × List Nat)} {A : Option Addr} {c : Nat} (h : CellsF w B v xs k qs) (hl : xs.length = k * 2) (hg : w.grownBy w' v.ownBlock) (hf : Fresh w v v') (hk : k < qs.length)
    (hu : U64s w (newX B v) A c (qs[k]).2) : CellsF w' B v' (xs ++ [.bool (qs[k]).1, .slice A (qs[k]).2.length c]) (k + 1) qs := fun j hj hjk => by
  rcases Nat.lt_or_ge j k with h1 | h1
  · obtain ⟨A', c', c0, c1, hu'⟩ := h j hj h1
    refine ⟨A', c', ?_, ?_, hu'.grow hg hf⟩
    · rw [List.getElem?_append_left (by omega)]; exact c0
    · rw [List.getElem?_append_left (by omega)]; exact c1
  · obtain rfl : j = k := by omega
    refine ⟨A, c, ?_, ?_, hu.grow hg hf⟩
    · rw [List.getElem?_append_right (by omega), hl, Nat.sub_self]; rfl
    · rw [List.getElem?_append_right (by omega), hl, show j * 2 + 1 - j * 2 = 1 by omega]; rfl
theorem CellsF.fin {w : World} {B : Nat} {v : Value} {xs : List Value} {qs : List (Bool × List Nat)} {e : TypeId} (h : CellsF w B v xs qs.length qs) (hown : w.ownsRow B e 2 v qs.length xs) : IsVec w (new B) v qs := by
  obtain ⟨A2, c2, e2⟩ := own_shape hown
  have hcase := hown.2
  rcases hcase with ⟨e1, h0⟩ | ⟨g, cap, cur, e1, hB, hh, hcap, hm, _⟩
  · have hq : qs = [] := List.eq_nil_of_length_eq_zero h0
    subst hq
    exact ⟨none, 0, e1, VecAt.nil _ _⟩
  · subst e1
    refine ⟨some ⟨g, 0, none⟩, cap, rfl, hcap, by simpa [maxLen] using hm, fun h0 => ⟨g, 0, rfl, hB, (hown.lt g rfl).2, fun _ j => by rw [Nat.zero_add]; exact hown.frozenAt j, fun j hj => ?_⟩⟩
    obtain ⟨A, c, c0, c1, hu⟩ := h j hj hj
    exact ⟨A, c, by rw [Nat.zero_add, hown.cellAt (j * 2) (by omega)]; exact c0, by rw [Nat.zero_add, hown.cellAt (j * 2 + 1) (by omega)]; exact c1, hu.mono (newX_le _ _)⟩
theorem own_lt {w : World} {base : Nat} {e : TypeId} {size : Nat} {v : Value} {n : Nat} {xs : List Value} (h : w.ownsRow base e size v n xs) : ∀ k, v.ownBlock = some k → k < w.heap.size := fun k hk => (h.lt k hk).2
theorem two_news {W : World} {u1 u2 : Value} {t : TypeId} : ∀ j u, [u1, u2][j]? = some u → (W.alloc (.cells #[u1, u2] t)).cell? ⟨W.heap.size, j, none⟩ = some u := fun j u hu => by
  match j, hu with
  | 0, hu => cases hu; exact cell_newest (W := W) rfl rfl
  | 1, hu => cases hu; exact cell_newest (W := W) rfl rfl
end Go.Proofs.YtajmijnoikkffaaGreat

namespace Go.Proofs.YtajmijnoikkffaaGreat
open Go.RowKit
set_option linter.unusedVariables false
set_option linter.unusedSimpArgs false

theorem clone_n {w : World} {Z : Zone} {A : Option Addr} {c : Nat} {l : List Nat} (ha : U64s w Z A c l) (hb : l.length ≤ 1000000000000) :
    Calls Tryz.prog 32 #[.slice A l.length c] w fun e w' => ∃ A' c', e = .returned (.slice A' l.length c') ∧ U64s w' (new w.heap.size) A' c' l ∧ Below w.heap.size w w' := by
  refine (clone_any rfl ha hb).mono ?_
  rintro e w' ⟨v, rfl, hown, hb⟩
  obtain ⟨A', c', rfl⟩ := own_shape hown
  exact ⟨A', c', rfl, isU_after ha.small rfl hown (Nat.le_refl _), hb⟩

set_option maxRecDepth 100000 in
set_option maxHeartbeats 1000000 in
theorem vtwin1 {w : World} {Z : Zone} {s : Bool} {l : List Nat} {A : Option Addr} {c ix : Nat} (u1 : U64s w Z A c l) (hl : l.length ≤ 100000000000) :
    Calls Tryz.prog 31 #[.int .i64 (ix : Int), .agg #[.bool s, .slice A l.length c]] w fun e w' => ∃ Av cv, e = .returned (.agg #[.bool s, .slice Av l.length cv]) ∧ U64s w' (new w.heap.size) Av cv l ∧ Below w.heap.size w w' := by
  obtain ⟨bA, bR, hB0⟩ := boxes2 w (.bool s) (.slice A l.length c) (.bool false) (.slice none 0 0) 42
  obtain ⟨a0, a1, _, _, _⟩ := bA
  have hd : Below w.heap.size w ((w.alloc (.cells #[.bool s, .slice A l.length c] 42)).alloc (.cells #[.bool false, .slice none 0 0] 42)).drew := hB0.drew
  have bRd := bR.below (W' := ((w.alloc (.cells #[.bool s, .slice A l.length c] 42)).alloc (.cells #[.bool false, .slice none 0 0] 42)).drew) ((Below.refl _ _).drew)
  have s0 := (show ((w.alloc (.cells #[.bool s, .slice A l.length c] 42)).alloc (.cells #[.bool false, .slice none 0 0] 42)).drew.cell? ⟨w.heap.size, 0, none⟩ = _ from a0)
  have s1 := (show ((w.alloc (.cells #[.bool s, .slice A l.length c] 42)).alloc (.cells #[.bool false, .slice none 0 0] 42)).drew.cell? ⟨w.heap.size, 1, none⟩ = _ from a1)
  have C0 := Lib.hid (clone_n (u1.below hd) (by omega))
  have HB := Lib.hid hd
  clear u1 hB0 hd bR a0 a1
  go_enter Tryz.func31, Tryz.ntmps31
  go_wp2
  go_region_held3 (fun w' => w'.cell? ⟨w.heap.size, 0, none⟩ = some (.bool s) ∧ w'.cell? ⟨w.heap.size, 1, none⟩ = some (.slice A l.length c))
    (first
      | (go_keep; done)
      | exact ⟨t0, t1⟩
      | exact ⟨stV t0 (by omega), stV t1 (by omega)⟩)
    (first
      | (go_at_call 32; with_reducible refine C0.out.mono ?_; rintro e w1 ⟨A1, c1, rfl, u1, hc1⟩; have t0 := keepC hc1 s0; have t1 := keepC hc1 s1; obtain ⟨q0, q1, f0, f1, _⟩ := bRd.below hc1))
  all_goals
    have hBz := from_ HB.out hc1
    have hP := (bRd.below hc1).put hBz (by omega) (.bool s) (.slice A1 l.length c1)
    have hiv : IsU w1 _ (.slice A1 l.length c1) l := ⟨A1, c1, rfl, u1⟩
    have hu2 := hP.keep (by have := HB.out.size; have := bRd.lt; omega) hiv
    have Hu := Lib.hid hu2
    have HP := Lib.hid hP
    clear hu2 hP hiv
    go_wp2
    refine bodyPost_ret (res_int rfl _ (w.heap.size + 1) rfl HP.out.c0 HP.out.c1) rfl ?_
    obtain ⟨A', c', e', h'⟩ := Hu.out
    injection e' with e1 e2 e3
    subst e1 e3
    exact ⟨_, _, rfl, h', HP.out.bel⟩

set_option maxRecDepth 100000 in
set_option maxHeartbeats 2000000 in
theorem veach_twin {w : World} {Z : Zone} {A : Option Addr} {c : Nat} {ps qs : List (Bool × List Nat)} (ha : VecAt w Z A c ps) (hq : qs.length = ps.length) (hl : ps.length ≤ 100000000000)
    (hF : ∀ j (hj : j < ps.length) (hj' : j < qs.length) (w1 : World) B d, Below w.heap.size w w1 → U64s w1 Z B d ps[j].2 → Calls Tryz.prog 31 #[.int .i64 (j : Int), .agg #[.bool ps[j].1, .slice B ps[j].2.length d]] w1 fun e w' => ∃ A c, e = .returned (.agg #[.bool qs[j].1, .slice A qs[j].2.length c]) ∧ U64s w' (new w1.heap.size) A c qs[j].2 ∧ Below w1.heap.size w1 w') :
    Calls Tryz.prog 30 #[.slice A ps.length c, .func (.func 31) #[] #[]] w fun e w' => ∃ Av cv, e = .returned (.slice Av qs.length cv) ∧ VecAt w' (new w.heap.size) Av cv qs ∧ Below w.heap.size w w' := by
  obtain ⟨i0, hi, hz0, hz1, hz2⟩ := info_parts infoI
  obtain ⟨n, hn⟩ : ∃ n, n = ps.length := ⟨_, rfl⟩
  have hn' : qs.length = n := by omega
  have HF := Lib.hid hF
  have hmx := ha.max
  have hcp := ha.cap
  rw [← hn] at hl hcp ⊢
  have Hn := Lib.hid hn
  have Hn' := Lib.hid hn'
  clear hF hq hn hn'
  go_enter Tryz.func30, Tryz.ntmps30
  go_wp2_with (at_make; go_loud (refine wpList_make_full _ rfl _ _ 23 rfl w.heap.size 42 i0 (.agg #[.bool false, .slice none 0 0]) 2 Tryz.underlying23 hi hz0 hz1 .i64 .i64 _ _ n rfl rfl rfl rfl (by rw [hz2]; omega) (by simp only [maxLen]; omega) (Nat.le_refl _) ?_); intro w1 hown hgrow)
  have hb1 : Below w.heap.size w w1 := (Below.refl _ w).grown hgrow (Nat.le_refl _) (fun k h => by cases h)
  generalize (madeCells (Value.agg #[.bool false, .slice none 0 0]).cells (n * 2)).toList = xs0 at hown
  clear hgrow
  go_wp2
  go_loopw [13] (fun i wr => ∃ (k : Nat) (xs : List Value), k ≤ n ∧ i = .int .i64 (k : Int) ∧ wr.ownsRow w.heap.size 42 2 (.slice (some ⟨w.heap.size, 0, none⟩) n n) n xs ∧ Hid (CellsQ wr w.heap.size xs k qs) ∧ Below w.heap.size w wr ∧ w.heap.size < wr.heap.size) (fun i _ => n - (intOf i).toNat)
  case atStart => exact ⟨0, xs0, Nat.zero_le _, rfl, hown, fun j hj h => absurd h (by omega), hb1, (hown.lt _ rfl).2⟩
  case round =>
    clear hown hb1
    obtain ⟨k, xs, hk, rfl, hown, hcells, hbel, hgt⟩ := hrel
    by_cases hlt : k < n
    · have hkp : k < ps.length := by have := Hn.out; omega
      have hkq : k < qs.length := by have := Hn'.out; omega
      obtain ⟨b, o, B, d, rfl, hbb, c0, c1, hu⟩ := (ha.below hbel).at hkp
      have hxl := hown.1
      have hput := fun (w2 w' : World) (A2 : Option Addr) (c2 : Nat) (h1 : CellsQ w2 w.heap.size xs k qs) h2 h3 => h1.put (w' := w') (A := A2) (c := c2) (by have := Hn'.out; omega) hkq h2 h3
      have Hput := Lib.hid hput
      have hal : Below wr.heap.size wr (wr.alloc (.cells #[.bool ps[k].1, .slice B ps[k].2.length d] 42)) := (Below.refl _ _).alloc (Nat.le_refl _) _
      have hfk := HF.out k hkp hkq _ B d (from_ hbel hal) (by
        obtain ⟨b', o', B', d', e, _, _, c1', hu'⟩ := ha.at hkp
        injection e with e
        injection e with e1 e2
        subst e1 e2
        have h5 := (keepC hbel c1').symm.trans c1
        injection h5 with h5
        injection h5 with h6 h7 h8
        subst h6 h8
        exact (hu'.below hbel).below hal)
      have Hfk := Lib.hid hfk
      have Hal := Lib.hid hal
      clear hput hfk hal hu
      generalize ps[k].1 = s at *
      generalize ps[k].2 = l at *
      generalize qs[k].1 = s2 at *
      generalize qs[k].2 = l2 at *
      go_wp2_with fail
      refine Hfk.out.mono ?_
      rintro e w2 ⟨Au, cu, rfl, hu', hb2⟩
      have hb3 := from_ Hal.out hb2
      have hown2 := own_below hown hb3
      have hcells2 := hcells.out.keep (w' := w2) fun b _ hl => hb3.block b hl
      have hub := hu'.mono (Y := new (w.heap.size + 1)) (new_le (by have := Hal.out.size; omega))
      have hP := Hput.out w2 ((w2.setCell ⟨w.heap.size, k * 2, none⟩ (.bool s2)).setCell ⟨w.heap.size, k * 2 + 1, none⟩ (.slice Au l2.length cu)) Au cu hcells2 hub (fun b hb _ => by
        rw [Below.heap_setCell _ _ _ _ hb, Below.heap_setCell _ _ _ _ hb])
      have d0 := hown2.cellAt (k * 2) (by omega)
      have d1 := hown2.cellAt (k * 2 + 1) (by omega)
      rw [List.getElem?_eq_getElem (by omega)] at d0 d1
      have f0 := hown2.frozenAt (k * 2)
      have f1 := hown2.frozenAt (k * 2 + 1)
      have o1 := (hown2.stored (k * 2) (.bool s2)).1
      have o2 := (o1.stored (k * 2 + 1) (.slice Au l2.length cu)).1
      have hB2 := from_ hbel hb3
      have hB3 := (hB2.setCell (p := ⟨w.heap.size, k * 2, none⟩) (Nat.le_refl _) (.bool s2)).setCell (p := ⟨w.heap.size, k * 2 + 1, none⟩) (Nat.le_refl _) (.slice Au l2.length cu)
      have hgt3 : w.heap.size < ((w2.setCell ⟨w.heap.size, k * 2, none⟩ (.bool s2)).setCell ⟨w.heap.size, k * 2 + 1, none⟩ (.slice Au l2.length cu)).heap.size := by
        have := hb3.size
        simp [World.setCell]
        omega
      have HP := Lib.hid hP
      have HO := Lib.hid o2
      have HB := Lib.hid hB3
      clear hP o1 o2 hu' hub hown2 hcells2 hcells hown hB2 hB3 hb2 hb3 Hput
      generalize xs[k * 2] = x0 at *
      generalize xs[k * 2 + 1] = x1 at *
      go_wp2
      go_roundw
      case rel => exact ⟨k + 1, _, by omega, by go_num, HO.out, HP, HB.out, hgt3⟩
      case measure => simp [intOf]; omega
    · obtain rfl : n = k := by omega
      have hnn := Hn'.out
      have hfin : VecAt wr (new w.heap.size) (some ⟨w.heap.size, 0, none⟩) n qs := by
        have h1 := hcells.out
        rw [← hnn] at h1 hown ⊢
        exact h1.fin hown hgt (Nat.le_refl _) (by omega)
      have Hfin := Lib.hid hfin
      clear hfin hcells hown
      go_wp2
      go_ret
      rw [Hn'.out]
      exact ⟨_, _, rfl, Hfin.out, hbel⟩

set_option maxRecDepth 100000 in
set_option maxHeartbeats 2000000 in
theorem veach_prime {w : World} {Z : Zone} {A : Option Addr} {c : Nat} {ps qs : List (Bool × List Nat)} {p0 : Addr} (ha : VecAt w Z A c ps) (hq : qs.length = ps.length) (hl : ps.length ≤ 100000000000)
    (hF : ∀ j (hj : j < ps.length) (hj' : j < qs.length) (w1 : World) B d, Below w.heap.size w w1 → U64s w1 Z B d ps[j].2 → Calls Tryz.prog 50 #[.int .i64 (j : Int), .agg #[.bool ps[j].1, .slice B ps[j].2.length d], .pointer (some p0)] w1 fun e w' => ∃ A c, e = .returned (.agg #[.bool qs[j].1, .slice A qs[j].2.length c]) ∧ U64s w' (new w1.heap.size) A c qs[j].2 ∧ Below w1.heap.size w1 w') :
    Calls Tryz.prog 30 #[.slice A ps.length c, .func (.func 50) #[] #[.pointer (some p0)]] w fun e w' => ∃ Av cv, e = .returned (.slice Av qs.length cv) ∧ VecAt w' (new w.heap.size) Av cv qs ∧ Below w.heap.size w w' := by
  obtain ⟨i0, hi, hz0, hz1, hz2⟩ := info_parts infoI
  obtain ⟨n, hn⟩ : ∃ n, n = ps.length := ⟨_, rfl⟩
  have hn' : qs.length = n := by omega
  have HF := Lib.hid hF
  have hmx := ha.max
  have hcp := ha.cap
  rw [← hn] at hl hcp ⊢
  have Hn := Lib.hid hn
  have Hn' := Lib.hid hn'
  clear hF hq hn hn'
  go_enter Tryz.func30, Tryz.ntmps30
  go_wp2_with (at_make; go_loud (refine wpList_make_full _ rfl _ _ 23 rfl w.heap.size 42 i0 (.agg #[.bool false, .slice none 0 0]) 2 Tryz.underlying23 hi hz0 hz1 .i64 .i64 _ _ n rfl rfl rfl rfl (by rw [hz2]; omega) (by simp only [maxLen]; omega) (Nat.le_refl _) ?_); intro w1 hown hgrow)
  have hb1 : Below w.heap.size w w1 := (Below.refl _ w).grown hgrow (Nat.le_refl _) (fun k h => by cases h)
  generalize (madeCells (Value.agg #[.bool false, .slice none 0 0]).cells (n * 2)).toList = xs0 at hown
  clear hgrow
  go_wp2
  go_loopw [13] (fun i wr => ∃ (k : Nat) (xs : List Value), k ≤ n ∧ i = .int .i64 (k : Int) ∧ wr.ownsRow w.heap.size 42 2 (.slice (some ⟨w.heap.size, 0, none⟩) n n) n xs ∧ Hid (CellsQ wr w.heap.size xs k qs) ∧ Below w.heap.size w wr ∧ w.heap.size < wr.heap.size) (fun i _ => n - (intOf i).toNat)
  case atStart => exact ⟨0, xs0, Nat.zero_le _, rfl, hown, fun j hj h => absurd h (by omega), hb1, (hown.lt _ rfl).2⟩
  case round =>
    clear hown hb1
    obtain ⟨k, xs, hk, rfl, hown, hcells, hbel, hgt⟩ := hrel
    by_cases hlt : k < n
    · have hkp : k < ps.length := by have := Hn.out; omega
      have hkq : k < qs.length := by have := Hn'.out; omega
      obtain ⟨b, o, B, d, rfl, hbb, c0, c1, hu⟩ := (ha.below hbel).at hkp
      have hxl := hown.1
      have hput := fun (w2 w' : World) (A2 : Option Addr) (c2 : Nat) (h1 : CellsQ w2 w.heap.size xs k qs) h2 h3 => h1.put (w' := w') (A := A2) (c := c2) (by have := Hn'.out; omega) hkq h2 h3
      have Hput := Lib.hid hput
      have hal : Below wr.heap.size wr (wr.alloc (.cells #[.bool ps[k].1, .slice B ps[k].2.length d] 42)) := (Below.refl _ _).alloc (Nat.le_refl _) _
      have hfk := HF.out k hkp hkq _ B d (from_ hbel hal) (by
        obtain ⟨b', o', B', d', e, _, _, c1', hu'⟩ := ha.at hkp
        injection e with e
        injection e with e1 e2
        subst e1 e2
        have h5 := (keepC hbel c1').symm.trans c1
        injection h5 with h5
        injection h5 with h6 h7 h8
        subst h6 h8
        exact (hu'.below hbel).below hal)
      have Hfk := Lib.hid hfk
      have Hal := Lib.hid hal
      clear hput hfk hal hu
      generalize ps[k].1 = s at *
      generalize ps[k].2 = l at *
      generalize qs[k].1 = s2 at *
      generalize qs[k].2 = l2 at *
      go_wp2_with fail
      refine Hfk.out.mono ?_
      rintro e w2 ⟨Au, cu, rfl, hu', hb2⟩
      have hb3 := from_ Hal.out hb2
      have hown2 := own_below hown hb3
      have hcells2 := hcells.out.keep (w' := w2) fun b _ hl => hb3.block b hl
      have hub := hu'.mono (Y := new (w.heap.size + 1)) (new_le (by have := Hal.out.size; omega))
      have hP := Hput.out w2 ((w2.setCell ⟨w.heap.size, k * 2, none⟩ (.bool s2)).setCell ⟨w.heap.size, k * 2 + 1, none⟩ (.slice Au l2.length cu)) Au cu hcells2 hub (fun b hb _ => by
        rw [Below.heap_setCell _ _ _ _ hb, Below.heap_setCell _ _ _ _ hb])
      have d0 := hown2.cellAt (k * 2) (by omega)
      have d1 := hown2.cellAt (k * 2 + 1) (by omega)
      rw [List.getElem?_eq_getElem (by omega)] at d0 d1
      have f0 := hown2.frozenAt (k * 2)
      have f1 := hown2.frozenAt (k * 2 + 1)
      have o1 := (hown2.stored (k * 2) (.bool s2)).1
      have o2 := (o1.stored (k * 2 + 1) (.slice Au l2.length cu)).1
      have hB2 := from_ hbel hb3
      have hB3 := (hB2.setCell (p := ⟨w.heap.size, k * 2, none⟩) (Nat.le_refl _) (.bool s2)).setCell (p := ⟨w.heap.size, k * 2 + 1, none⟩) (Nat.le_refl _) (.slice Au l2.length cu)
      have hgt3 : w.heap.size < ((w2.setCell ⟨w.heap.size, k * 2, none⟩ (.bool s2)).setCell ⟨w.heap.size, k * 2 + 1, none⟩ (.slice Au l2.length cu)).heap.size := by
        have := hb3.size
        simp [World.setCell]
        omega
      have HP := Lib.hid hP
      have HO := Lib.hid o2
      have HB := Lib.hid hB3
      clear hP o1 o2 hu' hub hown2 hcells2 hcells hown hB2 hB3 hb2 hb3 Hput
      generalize xs[k * 2] = x0 at *
      generalize xs[k * 2 + 1] = x1 at *
      go_wp2
      go_roundw
      case rel => exact ⟨k + 1, _, by omega, by go_num, HO.out, HP, HB.out, hgt3⟩
      case measure => simp [intOf]; omega
    · obtain rfl : n = k := by omega
      have hnn := Hn'.out
      have hfin : VecAt wr (new w.heap.size) (some ⟨w.heap.size, 0, none⟩) n qs := by
        have h1 := hcells.out
        rw [← hnn] at h1 hown ⊢
        exact h1.fin hown hgt (Nat.le_refl _) (by omega)
      have Hfin := Lib.hid hfin
      clear hfin hcells hown
      go_wp2
      go_ret
      rw [Hn'.out]
      exact ⟨_, _, rfl, Hfin.out, hbel⟩

theorem len_gcd (g x : Nat) : (limbs (Nat.gcd g x)).length ≤ max (limbs g).length (limbs x).length := by
  rcases Nat.eq_zero_or_pos g with rfl | h
  · rw [Nat.gcd_zero_left]
    omega
  · have := len_mono (Nat.le_of_dvd h (Nat.gcd_dvd_left g x))
    omega
def gcdK (xs : List Int) (k : Nat) : Nat := (xs.take k).foldl (fun g x => Nat.gcd g x.natAbs) 0
def gcdV (xs : List Int) : Nat := xs.foldl (fun g x => Nat.gcd g x.natAbs) 0
theorem gcdK_succ {xs : List Int} {k : Nat} (h : k < xs.length) : gcdK xs (k + 1) = Nat.gcd (gcdK xs k) (xs[k]).natAbs := by
  unfold gcdK
  rw [List.take_succ_eq_append_getElem h, List.foldl_append]
  rfl
theorem gcdK_all {xs : List Int} {k : Nat} (h : xs.length ≤ k) : gcdK xs k = gcdV xs := by
  unfold gcdK gcdV
  rw [List.take_of_length_le h]

set_option maxRecDepth 100000 in
set_option maxHeartbeats 1000000 in
theorem vtwin_any {w : World} {Z : Zone} {A : Option Addr} {c : Nat} {ps : List (Bool × List Nat)} (ha : VecAt w Z A c ps) (hl : ps.length ≤ 100000000000) (hK : ∀ p ∈ ps, p.2.length ≤ 100000000000) :
    Calls Tryz.prog 14 #[.slice A ps.length c] w fun e w' => ∃ Av cv, e = .returned (.slice Av ps.length cv) ∧ VecAt w' (new w.heap.size) Av cv ps ∧ Below w.heap.size w w' := by
  have hF := veach_twin (qs := ps) ha rfl hl (fun j hj hj' w1 B d hb hu => vtwin1 hu (hK ps[j] (List.getElem_mem hj)))
  have HF := Lib.hid hF
  clear hF ha hK
  generalize ps.length = L at *
  go_enter Tryz.func14, Tryz.ntmps14
  go_wp2_with fail
  refine HF.out.mono ?_
  rintro e w1 ⟨Av, cv, rfl, hv, hb1⟩
  have HV := Lib.hid hv
  clear hv
  go_wp2
  go_ret
  exact ⟨_, _, rfl, HV.out, hb1⟩

set_option maxRecDepth 100000 in
set_option maxHeartbeats 1000000 in
theorem vcontent_err {w : World} {Z : Zone} {A : Option Addr} {c : Nat} {ps : List (Bool × List Nat)} (ha : VecAt w Z A c ps) (hE : okV ps = false) :
    Calls Tryz.prog 49 #[.slice A ps.length c] w fun e w' => e = .returned (.tuple #[.slice none 0 0, .int .i64 8]) ∧ Below w.heap.size w w' := by
  have hal : Below w.heap.size w (w.alloc (.cells #[.slice A ps.length c] 23)) := (Below.refl _ _).alloc (Nat.le_refl _) _
  have hg := given_oneV (ty := 23) ha
  have hck := vchecked_any (n := 1) hg rfl (by simp) (by simp)
  have e1 : errV ps = 8 := by unfold errV; rw [hE]; rfl
  rw [errVs_one, e1] at hck
  have Hck := Lib.hid hck
  have Hal := Lib.hid hal
  clear hck hg hal ha hE e1
  generalize ps.length = n1 at *
  go_enter Tryz.func49, Tryz.ntmps49
  go_wp2_with fail
  refine Hck.out.mono ?_
  rintro e w1 ⟨rfl, hc1⟩
  have HB := Lib.hid (from_ Hal.out hc1)
  go_wp2
  go_ret2
  exact ⟨rfl, HB.out⟩

set_option maxRecDepth 100000 in
set_option maxHeartbeats 1000000 in
theorem vcontent_n {w : World} {Z : Zone} {A : Option Addr} {c K : Nat} {ps : List (Bool × List Nat)} {xs : List Int} (ha : VecAt w Z A c ps) (hx : NmV xs ps) (hl : ps.length ≤ 64) (hK1 : ∀ p ∈ ps, p.2.length ≤ K) (hK : K ≤ 20000000000) :
    Calls Tryz.prog 49 #[.slice A ps.length c] w fun e w' => ∃ v, e = .returned (.tuple #[v, .int .i64 0]) ∧ IsN w' (new w.heap.size) v (gcdV xs) ∧ Below w.heap.size w w' := by
  have hal : Below w.heap.size w (w.alloc (.cells #[.slice A ps.length c] 23)) := (Below.refl _ _).alloc (Nat.le_refl _) _
  have hg := given_oneV (ty := 23) ha
  have hck := vchecked_any (n := 1) hg rfl (by simp) (by simp)
  have e1 : errV ps = 0 := by unfold errV; rw [hx.okV hl]; rfl
  rw [errVs_one, e1] at hck
  have Hck := Lib.hid hck
  have Hal := Lib.hid hal
  obtain ⟨n, hn⟩ : ∃ n, n = ps.length := ⟨_, rfl⟩
  have hxl : xs.length = n := by rw [hx.len]; exact hn.symm
  rw [← hn] at Hck Hal hl ⊢
  have Hn := Lib.hid (show n = ps.length ∧ xs.length = n from ⟨hn, hxl⟩)
  clear hck hg hal e1 hn hxl
  go_enter Tryz.func49, Tryz.ntmps49
  go_wp2_with fail
  refine Hck.out.mono ?_
  rintro e w1 ⟨rfl, hc1⟩
  have hB1 := from_ Hal.out hc1
  clear Hal Hck hc1
  go_wp2
  go_loopw [2, 13] (fun v i wr => ∃ k : Nat, k ≤ n ∧ i = .int .i64 (k : Int) ∧ IsN wr (new w.heap.size) v (gcdK xs k) ∧ Hid ((limbs (gcdK xs k)).length ≤ K) ∧ Below w.heap.size w wr) (fun _ i _ => n - (intOf i).toNat)
  case atStart => exact ⟨0, Nat.zero_le _, rfl, IsN.zero _ _, (show (limbs 0).length ≤ K by rw [limbs_eq_nil.2 rfl]; simp), hB1⟩
  case round =>
    clear hB1
    obtain ⟨k, hk, rfl, hv, hlv, hbel⟩ := hrel
    by_cases hlt : k < n
    · obtain ⟨hn1, hn2⟩ := Hn.out
      have hkp : k < ps.length := by omega
      have hkx : k < xs.length := by omega
      obtain ⟨b, o, B1, d1, rfl, hbb, c0, c1, hu⟩ := (ha.below hbel).at hkp
      have na := hx.at k hkx hkp
      have hst := gcdK_succ hkx
      have hp1 := hK1 ps[k] (List.getElem_mem hkp)
      have hln := len_gcd (gcdK xs k) (xs[k]).natAbs
      rw [← hst] at hln
      have hal : Below wr.heap.size wr (wr.alloc (.cells #[.bool ps[k].1, .slice B1 ps[k].2.length d1] 42)) := (Below.refl _ _).alloc (Nat.le_refl _) _
      have hin : IsN (wr.alloc (.cells #[.bool ps[k].1, .slice B1 ps[k].2.length d1] 42)) Z (.slice B1 ps[k].2.length d1) (xs[k]).natAbs := by
        have h2 := hu.below hal
        unfold IsN
        rw [← na.2]
        exact ⟨B1, d1, rfl, h2⟩
      have hgd := gcd_good (hv.below hal) hin (by have := hlv.out; omega) (by rw [← na.2]; omega)
      rw [← hst] at hgd
      have hl2 : (limbs (gcdK xs (k + 1))).length ≤ K := by
        have := hlv.out
        rw [← na.2] at hln
        omega
      have Hgd := Lib.hid hgd
      have Hl2 := Lib.hid hl2
      have Hal := Lib.hid hal
      clear na hst hln hgd hl2 hin hu hlv hal hkx hn1 hn2
      generalize ps[k].1 = s at *
      generalize ps[k].2 = l at *
      go_wp2_with fail
      refine Hgd.out.mono ?_
      rintro e w2 ⟨v2, rfl, hv2, hb2⟩
      have hB2 := from_ hbel (from_ Hal.out hb2)
      have hv3 := Lib.hid (hv2.mono (Y := new w.heap.size) (new_le (by have := hbel.size; have := Hal.out.size; omega)))
      clear hv2
      go_wp2
      go_roundw
      case rel => exact ⟨k + 1, by omega, by go_num, hv3.out, Hl2, hB2⟩
      case measure => simp [intOf] <;> omega
    · obtain rfl : n = k := by omega
      rw [gcdK_all (by have := Hn.out.2; omega)] at hv
      have HV := Lib.hid hv
      clear hv hlv
      go_wp2
      go_ret2
      exact ⟨_, rfl, HV.out, hbel⟩

end Go.Proofs.YtajmijnoikkffaaGreat

namespace Go.Proofs.YtajmijnoikkffaaGreat
open Go.RowKit
set_option linter.unusedVariables false
set_option linter.unusedSimpArgs false

theorem exactV_n {w : World} {Z1 Z2 : Zone} {x y z : Int} {s t r : Bool} {l k m : List Nat} {A B : Option Addr} {c d : Nat} (h1 : Nm x s l) (h2 : Nm y t k) (h3 : Nm z r m) (hz : tq x y = z) (hy : y ≠ 0) (h0 : x.natAbs % y.natAbs = 0) (hl : l.length ≤ 10000000000) (u1 : U64s w Z1 A c l) (u2 : U64s w Z2 B d k) :
    Calls Tryz.prog 43 #[.agg #[.bool s, .slice A l.length c], .agg #[.bool t, .slice B k.length d]] w fun e w' => ∃ Av cv, e = .returned (.tuple #[.agg #[.bool r, .slice Av m.length cv], .int .i64 0]) ∧ U64s w' (new w.heap.size) Av cv m ∧ Below w.heap.size w w' := by
  refine (wexact_yes (h1.isZ u1) (h2.isZ u2) hy (by rw [← h1.len]; exact hl) h0).mono ?_
  rintro e w' ⟨v, rfl, hv, hb⟩
  rw [hz] at hv
  obtain ⟨Av, cv, rfl, hu⟩ := h3.of hv
  exact ⟨Av, cv, rfl, hu, hb⟩

set_option maxRecDepth 100000 in
set_option maxHeartbeats 1000000 in
theorem vprime1 {w : World} {Z1 Z2 : Zone} {x y z : Int} {s r : Bool} {l k m : List Nat} {A B : Option Addr} {c d g ix : Nat} (e0 : w.cell? ⟨g, 0, none⟩ = some (.slice B k.length d)) (h1 : Nm x s l) (h2 : Nm y false k) (h3 : Nm z r m) (hz : tq x y = z) (hy : y ≠ 0) (h0 : x.natAbs % y.natAbs = 0) (hl : l.length ≤ 10000000000) (u1 : U64s w Z1 A c l) (u2 : U64s w Z2 B d k) :
    Calls Tryz.prog 50 #[.int .i64 (ix : Int), .agg #[.bool s, .slice A l.length c], .pointer (some ⟨g, 0, none⟩)] w fun e w' => ∃ Av cv, e = .returned (.agg #[.bool r, .slice Av m.length cv]) ∧ U64s w' (new w.heap.size) Av cv m ∧ Below w.heap.size w w' := by
  obtain ⟨bA, bR, hB0⟩ := boxes2 w (.bool s) (.slice A l.length c) (.bool false) (.slice none 0 0) 42
  obtain ⟨a0, a1, _, _, _⟩ := bA
  have hg : g < w.heap.size := lt_of_cell e0
  replace e0 := keepC hB0 e0
  have C0 := Lib.hid (exactV_n h1 h2 h3 hz hy h0 hl (u1.below hB0) (u2.below hB0))
  have HB := Lib.hid hB0
  clear h1 h2 h3 hz hy h0 hl u1 u2 hB0
  generalize l.length = L at *
  generalize k.length = K at *
  go_enter Tryz.func50, Tryz.ntmps50
  go_wp2_with fail
  refine C0.out.mono ?_
  rintro e w1 ⟨Av, cv, rfl, hv, hc1⟩
  have bRw := bR.below hc1
  have hBw := from_ HB.out hc1
  have hP := bRw.put hBw (by omega) (.bool r) (.slice Av m.length cv)
  have hiv : IsU w1 _ (.slice Av m.length cv) m := ⟨Av, cv, rfl, hv⟩
  have hu2 := (hP.keep (by simp <;> omega) hiv).below ((Below.refl _ _).alloc (Nat.le_refl _) (.cells #[.bool r, .slice Av m.length cv] 42))
  have hbx := hP.box.alloc (.cells #[.bool r, .slice Av m.length cv] 42)
  have hbl := hP.bel.alloc hP.bel.size (.cells #[.bool r, .slice Av m.length cv] 42)
  have Hu := Lib.hid hu2
  have Hbx := Lib.hid hbx
  have Hbl := Lib.hid hbl
  have hz2 : w.heap.size + 1 < w1.heap.size := bRw.lt
  have hne : ¬ (w1.heap.size = w.heap.size + 1) := by omega
  have hne2 : ¬ (w.heap.size + 1 = w1.heap.size) := by omega
  obtain ⟨q0, q1, f0, f1, _⟩ := bRw
  clear hP hbx hbl hu2 hiv hv hBw bR hc1
  go_wp2
  refine bodyPost_ret (res_int rfl _ (w.heap.size + 1) rfl Hbx.out.c0 Hbx.out.c1) rfl ?_
  obtain ⟨A', c', e', h'⟩ := Hu.out
  injection e' with e1 e2 e3
  subst e1 e3
  exact ⟨_, _, rfl, h', Hbl.out⟩

theorem tq_abs (x : Int) (g : Nat) : (tq x (g : Int)).natAbs = x.natAbs / g := by
  unfold tq
  rw [Int.natAbs_natCast]
  split
  · exact Int.natAbs_natCast _
  · rw [Int.natAbs_neg]; exact Int.natAbs_natCast _
theorem tq_back {x : Int} {g : Nat} (hg : g ≠ 0) (h : x.natAbs % g = 0) : tq x (g : Int) * (g : Int) = x := by
  have h1 := Nat.div_add_mod x.natAbs g
  rw [h, Nat.add_zero] at h1
  unfold tq
  rw [Int.natAbs_natCast]
  have hz : decide ((g : Int) < 0) = false := decide_eq_false (by omega)
  rw [hz]
  have h2 : ((x.natAbs / g : Nat) : Int) * (g : Int) = ((x.natAbs : Nat) : Int) := by
    rw [← Int.natCast_mul, Nat.mul_comm, h1]
  by_cases hx : x < 0
  · rw [if_neg (by simp [hx]), Int.neg_mul, h2]
    omega
  · rw [if_pos (by simp; omega), h2]
    omega

theorem gcdF_dvd : ∀ (xs : List Int) (g0 : Nat), (xs.foldl (fun g x => Nat.gcd g x.natAbs) g0 ∣ g0) ∧ ∀ x ∈ xs, xs.foldl (fun g x => Nat.gcd g x.natAbs) g0 ∣ x.natAbs := by
  intro xs
  induction xs with
  | nil => exact fun g0 => ⟨Nat.dvd_refl _, fun x hx => absurd hx (by simp)⟩
  | cons x xs ih =>
    intro g0
    obtain ⟨h1, h2⟩ := ih (Nat.gcd g0 x.natAbs)
    refine ⟨Nat.dvd_trans h1 (Nat.gcd_dvd_left _ _), fun y hy => ?_⟩
    rcases List.mem_cons.1 hy with rfl | hy
    · exact Nat.dvd_trans h1 (Nat.gcd_dvd_right _ _)
    · exact h2 y hy
theorem gcdF_mul (k : Nat) : ∀ (xs ys : List Int) (g0 : Nat), ys.map Int.natAbs = xs.map (fun x => x.natAbs * k) → ys.foldl (fun g x => Nat.gcd g x.natAbs) (g0 * k) = xs.foldl (fun g x => Nat.gcd g x.natAbs) g0 * k := by
  intro xs
  induction xs with
  | nil => intro ys g0 h; cases ys with
    | nil => rfl
    | cons y ys => simp at h
  | cons x xs ih =>
    intro ys g0 h
    cases ys with
    | nil => simp at h
    | cons y ys =>
      simp only [List.map_cons, List.cons.injEq] at h
      simp only [List.foldl_cons]
      rw [h.1, Nat.gcd_mul_right]
      exact ih ys _ h.2
theorem gcdV_mul {k : Nat} {xs ys : List Int} (h : ys.map Int.natAbs = xs.map (fun x => x.natAbs * k)) : gcdV ys = gcdV xs * k := by
  have := gcdF_mul k xs ys 0 h
  rw [Nat.zero_mul] at this
  exact this
theorem gcdV_dvd {xs : List Int} {x : Int} (h : x ∈ xs) : gcdV xs ∣ x.natAbs := (gcdF_dvd xs 0).2 x h
theorem gcdV_zero {xs : List Int} : gcdV xs = 0 ↔ ∀ x ∈ xs, x = 0 := by
  constructor
  · intro h x hx
    have := gcdV_dvd hx
    rw [h] at this
    have := Nat.eq_zero_of_zero_dvd this
    omega
  · intro h
    have h2 := gcdV_mul (k := 0) (xs := xs) (ys := xs) (List.map_congr_left fun x hx => by rw [h x hx]; rfl)
    rw [Nat.mul_zero] at h2
    exact h2
theorem gcdV_low {xs : List Int} (hg : gcdV xs ≠ 0) : gcdV (xs.map fun x => tq x (gcdV xs : Int)) = 1 := by
  have h := gcdV_mul (k := gcdV xs) (xs := xs.map fun x => tq x (gcdV xs : Int)) (ys := xs) (by
    rw [List.map_map]
    refine List.map_congr_left fun x hx => ?_
    show x.natAbs = (tq x (gcdV xs : Int)).natAbs * gcdV xs
    rw [tq_abs, Nat.div_mul_cancel (gcdV_dvd hx)])
  have h2 : 1 * gcdV xs = gcdV (xs.map fun x => tq x (gcdV xs : Int)) * gcdV xs := by rw [Nat.one_mul]; exact h
  exact (Nat.eq_of_mul_eq_mul_right (Nat.pos_of_ne_zero hg) h2).symm

/-- What Prime answers. -/
def lowV (xs : List Int) : List Int := if gcdV xs = 0 then xs else xs.map fun x => tq x (gcdV xs : Int)
theorem lowV_length (xs : List Int) : (lowV xs).length = xs.length := by unfold lowV; split <;> simp
theorem lowV_back (xs : List Int) : (lowV xs).map (fun x => x * (gcdV xs : Int)) = xs := by
  unfold lowV
  by_cases hg : gcdV xs = 0
  · rw [if_pos hg, hg]
    refine (List.map_congr_left fun x hx => ?_).trans (List.map_id xs)
    rw [gcdV_zero.1 hg x hx]
    rfl
  · rw [if_neg hg, List.map_map]
    refine (List.map_congr_left fun x hx => ?_).trans (List.map_id xs)
    exact tq_back hg (Nat.mod_eq_zero_of_dvd (gcdV_dvd hx))
theorem tq_mul {x n : Int} {g : Nat} (hg : g ≠ 0) (hn : n ≠ 0) (h : g ∣ x.natAbs) : tq (x * n) ((g * n.natAbs : Nat) : Int) = tq x (g : Int) * sgn n := by
  have hgn : g * n.natAbs ≠ 0 := by
    intro h0
    rcases Nat.mul_eq_zero.1 h0 with h1 | h1 <;> omega
  have h1 := tq_back (x := x * n) hgn (by rw [Int.natAbs_mul]; exact Nat.mod_eq_zero_of_dvd (Nat.mul_dvd_mul_right h _))
  have h2 := tq_back (x := x) hg (Nat.mod_eq_zero_of_dvd h)
  have h3 : sgn n * (n.natAbs : Int) = n := by
    unfold sgn
    rw [if_neg hn]
    split <;> omega
  have h4 : tq x (g : Int) * sgn n * ((g * n.natAbs : Nat) : Int) = x * n := by
    rw [Int.natCast_mul, Int.mul_assoc, Int.mul_left_comm (sgn n), h3, ← Int.mul_assoc, h2]
  exact Int.eq_of_mul_eq_mul_right (by omega) (h1.trans h4.symm)
theorem lowV_scale (xs : List Int) (n : Int) : lowV (xs.map fun x => x * n) = (lowV xs).map fun x => x * sgn n := by
  have hg := gcdV_mul (k := n.natAbs) (xs := xs) (ys := xs.map fun x => x * n) (by
    rw [List.map_map]
    exact List.map_congr_left fun x _ => Int.natAbs_mul x n)
  by_cases hn : n = 0
  · subst hn
    have e : gcdV (xs.map fun x => x * 0) = 0 := by rw [hg]; simp
    unfold lowV
    rw [if_pos e]
    have hs : sgn 0 = 0 := by unfold sgn; rw [if_pos rfl]
    rw [hs]
    by_cases h0 : gcdV xs = 0
    · rw [if_pos h0]
    · rw [if_neg h0, List.map_map]
      exact List.map_congr_left fun x _ => by simp
  · by_cases h0 : gcdV xs = 0
    · have e : gcdV (xs.map fun x => x * n) = 0 := by rw [hg, h0, Nat.zero_mul]
      unfold lowV
      rw [if_pos e, if_pos h0]
      exact List.map_congr_left fun x hx => by rw [gcdV_zero.1 h0 x hx]; simp
    · have e : gcdV (xs.map fun x => x * n) ≠ 0 := by
        rw [hg]
        intro h
        rcases Nat.mul_eq_zero.1 h with h | h <;> omega
      unfold lowV
      rw [if_neg e, if_neg h0, List.map_map, List.map_map, hg]
      exact List.map_congr_left fun x hx => tq_mul h0 hn (gcdV_dvd hx)

set_option maxRecDepth 100000 in
set_option maxHeartbeats 1000000 in
theorem vprime_err {w : World} {Z : Zone} {A : Option Addr} {c : Nat} {ps : List (Bool × List Nat)} (ha : VecAt w Z A c ps) (hE : okV ps = false) :
    Calls Tryz.prog 33 #[.slice A ps.length c] w fun e w' => e = .returned (.tuple #[.slice none 0 0, .int .i64 8]) ∧ Below w.heap.size w w' := by
  have Hc := Lib.hid (vcontent_err ha hE)
  clear ha hE
  generalize ps.length = L at *
  go_enter Tryz.func33, Tryz.ntmps33
  go_wp2_with fail
  refine Hc.out.mono ?_
  rintro e w1 ⟨rfl, hb1⟩
  have hB1 := hb1.alloc hb1.size (.cells #[.slice none 0 0] 40)
  go_wp2
  go_ret2
  exact ⟨rfl, hB1⟩

set_option maxRecDepth 100000 in
set_option maxHeartbeats 1000000 in
theorem vprime_n {w : World} {Z : Zone} {A : Option Addr} {c K : Nat} {ps rs : List (Bool × List Nat)} {xs : List Int} (ha : VecAt w Z A c ps) (hx : NmV xs ps) (hl : ps.length ≤ 64) (hK1 : ∀ p ∈ ps, p.2.length ≤ K) (hK : K ≤ 10000000000) (h3 : NmV (lowV xs) rs) :
    Calls Tryz.prog 33 #[.slice A ps.length c] w fun e w' => ∃ Av cv, e = .returned (.tuple #[.slice Av rs.length cv, .int .i64 0]) ∧ VecAt w' (new w.heap.size) Av cv rs ∧ Below w.heap.size w w' := by
  have Hc := Lib.hid (vcontent_n ha hx hl hK1 (by omega))
  have hrl : rs.length = ps.length := by rw [← h3.len, lowV_length, hx.len]
  by_cases hg : gcdV xs = 0
  · have hrs : rs = ps := by
      have h1 : rs = _ := h3
      have h2 : ps = _ := hx
      rw [h1, h2]
      unfold lowV
      rw [if_pos hg]
    subst hrs
    have e0 : limbs 0 = [] := limbs_eq_nil.2 rfl
    rw [hg] at Hc
    have ht := fun (w1 : World) (h : Below w.heap.size w w1) => vtwin_any (ha.below h) (by omega) (fun p hp => Nat.le_trans (hK1 p hp) (by omega))
    have Ht := Lib.hid ht
    clear ht ha hx hK1 h3 hrl hg
    generalize hL : rs.length = L at *
    clear hL
    go_enter Tryz.func33, Tryz.ntmps33
    go_wp2_with fail
    refine Hc.out.mono ?_
    rintro e w1 ⟨_, rfl, hv, hb1⟩
    obtain ⟨Ac, cc, rfl, hu⟩ := hv
    rw [e0]
    have p0 := cell1 w1 (.slice Ac ([] : List Nat).length cc) 40
    have hB1 := hb1.alloc hb1.size (.cells #[.slice Ac ([] : List Nat).length cc] 40)
    rw [List.length_nil] at p0 hB1 ⊢
    go_wp2_with fail
    refine (Ht.out _ hB1).mono ?_
    rintro e w2 ⟨Av, cv, rfl, hv, hb2⟩
    have hB2 := from_ hB1 hb2
    have HV := Lib.hid (hv.mono (Y := new w.heap.size) (new_le hB1.size))
    clear hv
    go_wp2
    go_ret2
    exact ⟨_, _, rfl, HV.out, hB2⟩
  · obtain ⟨k, hk⟩ : ∃ k, k = limbs (gcdV xs) := ⟨_, rfl⟩
    have hkl : 0 < k.length := by rw [hk]; exact len_pos.2 hg
    have hnk : Nm ((gcdV xs : Nat) : Int) false k := ⟨(decide_eq_false (by omega)).symm, by rw [hk, Int.natAbs_natCast]⟩
    have hrs : NmV (xs.map fun x => tq x (gcdV xs : Int)) rs := by
      unfold lowV at h3
      rwa [if_neg hg] at h3
    have hF : ∀ (w1 : World) (g : Nat) (B : Option Addr) (d : Nat), Below w.heap.size w w1 → w1.cell? ⟨g, 0, none⟩ = some (.slice B k.length d) → U64s w1 old B d k → Calls Tryz.prog 30 #[.slice A ps.length c, .func (.func 50) #[] #[.pointer (some ⟨g, 0, none⟩)]] w1 fun e w' => ∃ Av cv, e = .returned (.slice Av rs.length cv) ∧ VecAt w' (new w1.heap.size) Av cv rs ∧ Below w1.heap.size w1 w' := fun w1 g B d hb1 hp hu0 => by
      refine veach_prime (ha.below hb1) hrl (by omega) fun j hj hj' w2 B' d' hb2 hu => ?_
      have hjx : j < xs.length := by rw [hx.len]; exact hj
      have h1 := hx.at j hjx hj
      have h4 := hrs.at j (by rw [hrs.len]; exact hj') hj'
      rw [List.getElem_map] at h4
      have q1 := hK1 ps[j] (List.getElem_mem hj)
      exact vprime1 (keepC hb2 hp) h1 hnk h4 rfl (by omega) (by rw [Int.natAbs_natCast]; exact Nat.mod_eq_zero_of_dvd (gcdV_dvd (List.getElem_mem hjx))) (by omega) hu (hu0.below hb2)
    have HF := Lib.hid hF
    have Hk := Lib.hid hk
    clear hF ha hx hK1 h3 hrs hnk hk
    rw [hrl] at HF ⊢
    clear hrl
    generalize ps.length = L at *
    have z1 : ((k.length : Int) == 0) = false := beq_eq_false_iff_ne.2 (by omega)
    go_enter Tryz.func33, Tryz.ntmps33
    go_wp2_with fail
    refine Hc.out.mono ?_
    rintro e w1 ⟨_, rfl, hv, hb1⟩
    unfold IsN at hv
    rw [← Hk.out] at hv
    obtain ⟨Ac, cc, rfl, hu⟩ := hv
    have p0 := cell1 w1 (.slice Ac k.length cc) 40
    have hal : Below w1.heap.size w1 (w1.alloc (.cells #[.slice Ac k.length cc] 40)) := (Below.refl _ _).alloc (Nat.le_refl _) _
    have hB1 := from_ hb1 hal
    have hu1 := Lib.hid ((hu.mono (le_old _)).below hal)
    clear hu hal
    go_wp2_with fail
    refine (HF.out _ _ _ _ hB1 p0 hu1.out).mono ?_
    rintro e w2 ⟨Av, cv, rfl, hv, hb2⟩
    have hB2 := from_ hB1 hb2
    have HV := Lib.hid (hv.mono (Y := new w.heap.size) (new_le hB1.size))
    clear hv
    go_wp2
    go_ret2
    exact ⟨_, _, rfl, HV.out, hB2⟩

end Go.Proofs.YtajmijnoikkffaaGreat

namespace Go.Proofs.YtajmijnoikkffaaGreat
open Go.RowKit
set_option linter.unusedVariables false
set_option linter.unusedSimpArgs false

/-- The number at the k-th place in the order (1 .. n-1, then 0). -/
def co (n : Nat) (x : List Int) (k : Nat) : Int := x.getD (k % n) 0
/-- m times a row and q times another one. -/
def mixV (m : Int) (x : List Int) (q : Int) (y : List Int) : List Int := List.zipWith (fun a b => m * a + q * b) x y
theorem mixV_length {m q : Int} {x y : List Int} {n : Nat} (hx : x.length = n) (hy : y.length = n) : (mixV m x q y).length = n := by
  unfold mixV; rw [List.length_zipWith, hx, hy, Nat.min_self]
theorem co_mix {n : Nat} {m q : Int} {x y : List Int} (hx : x.length = n) (hy : y.length = n) (k : Nat) : co n (mixV m x q y) k = m * co n x k + q * co n y k := by
  unfold co mixV
  rw [List.getD_eq_getElem?_getD, List.getD_eq_getElem?_getD, List.getD_eq_getElem?_getD, List.getElem?_zipWith]
  rcases Nat.lt_or_ge (k % n) n with h | h
  · rw [List.getElem?_eq_getElem (by omega), List.getElem?_eq_getElem (by omega)]
    rfl
  · rw [List.getElem?_eq_none (by omega), List.getElem?_eq_none (by omega)]
    simp
theorem co_scale {n : Nat} {x : List Int} (t : Int) (k : Nat) : co n (x.map fun a => a * t) k = co n x k * t := by
  unfold co
  rw [List.getD_eq_getElem?_getD, List.getD_eq_getElem?_getD, List.getElem?_map]
  cases x[k % n]? <;> simp
theorem co_ext {n : Nat} {x y : List Int} (hx : x.length = n) (hy : y.length = n) (h : ∀ k, 1 ≤ k → k ≤ n → co n x k = co n y k) : x = y := by
  refine List.ext_getElem (by omega) fun j h1 h2 => ?_
  have hn : 0 < n := by omega
  rcases Nat.eq_zero_or_pos j with h0 | h0
  · subst h0
    have := h n hn (Nat.le_refl _)
    unfold co at this
    rwa [Nat.mod_self, List.getD_eq_getElem?_getD, List.getD_eq_getElem?_getD, List.getElem?_eq_getElem h1, List.getElem?_eq_getElem h2] at this
  · have := h j h0 (by omega)
    unfold co at this
    rwa [Nat.mod_eq_of_lt (by omega), List.getD_eq_getElem?_getD, List.getD_eq_getElem?_getD, List.getElem?_eq_getElem h1, List.getElem?_eq_getElem h2] at this
theorem co_mem {n : Nat} {x : List Int} (hx : x.length = n) {k : Nat} (hn : 0 < n) : co n x k ∈ x := by
  unfold co
  have := Nat.mod_lt k hn
  rw [List.getD_eq_getElem?_getD, List.getElem?_eq_getElem (by omega)]
  exact List.getElem_mem _
theorem mem_co {n : Nat} {x : List Int} (hx : x.length = n) {a : Int} (ha : a ∈ x) : ∃ k, 1 ≤ k ∧ k ≤ n ∧ co n x k = a := by
  obtain ⟨j, hj, rfl⟩ := List.getElem_of_mem ha
  rcases Nat.eq_zero_or_pos j with h0 | h0
  · subst h0
    refine ⟨n, by omega, Nat.le_refl _, ?_⟩
    unfold co
    rw [Nat.mod_self, List.getD_eq_getElem?_getD, List.getElem?_eq_getElem hj]
    rfl
  · refine ⟨j, h0, by omega, ?_⟩
    unfold co
    rw [Nat.mod_eq_of_lt (by omega), List.getD_eq_getElem?_getD, List.getElem?_eq_getElem hj]
    rfl
theorem co_zero {n k : Nat} : co n (List.replicate n 0) k = 0 := by
  unfold co
  rw [List.getD_eq_getElem?_getD, List.getElem?_replicate]
  split <;> rfl
theorem all_zero {n : Nat} {x : List Int} (hx : x.length = n) (h : ∀ k, 1 ≤ k → k ≤ n → co n x k = 0) : x = List.replicate n 0 :=
  co_ext hx (by simp) fun k h1 h2 => by rw [h k h1 h2, co_zero]

/-- The first place in the order at which a row is not 0; 0: there is none. -/
def pkF (n : Nat) (x : List Int) : Nat → Nat → Nat
  | 0, _ => 0
  | f + 1, k => if co n x k ≠ 0 then k else pkF n x f (k + 1)
def pk (n : Nat) (x : List Int) : Nat := pkF n x n 1
theorem pkF_spec {n : Nat} {x : List Int} : ∀ (f k : Nat), 1 ≤ k → (pkF n x f k = 0 ∧ (∀ j, k ≤ j → j < k + f → co n x j = 0)) ∨ (k ≤ pkF n x f k ∧ pkF n x f k < k + f ∧ co n x (pkF n x f k) ≠ 0 ∧ ∀ j, k ≤ j → j < pkF n x f k → co n x j = 0) := by
  intro f
  induction f with
  | zero => intro k _; exact .inl ⟨rfl, fun j h1 h2 => absurd h2 (by omega)⟩
  | succ f ih =>
    intro k hk
    by_cases h : co n x k ≠ 0
    · have e : pkF n x (f + 1) k = k := if_pos h
      rw [e]
      exact .inr ⟨Nat.le_refl _, by omega, h, fun j h1 h2 => absurd h2 (by omega)⟩
    · have e : pkF n x (f + 1) k = pkF n x f (k + 1) := if_neg h
      rw [e]
      have h0 : co n x k = 0 := by simpa using h
      rcases ih (k + 1) (by omega) with ⟨e1, h1⟩ | ⟨e1, e2, h1, h2⟩
      · refine .inl ⟨e1, fun j g1 g2 => ?_⟩
        rcases Nat.eq_or_lt_of_le g1 with rfl | g
        · exact h0
        · exact h1 j (by omega) (by omega)
      · refine .inr ⟨by omega, by omega, h1, fun j g1 g2 => ?_⟩
        rcases Nat.eq_or_lt_of_le g1 with rfl | g
        · exact h0
        · exact h2 j (by omega) g2
theorem pk_le {n : Nat} {x : List Int} : pk n x ≤ n := by
  rcases pkF_spec (n := n) (x := x) n 1 (Nat.le_refl _) with ⟨e, _⟩ | ⟨_, h, _⟩ <;> unfold pk <;> omega
theorem pk_zero {n : Nat} {x : List Int} (h : pk n x = 0) {k : Nat} (h1 : 1 ≤ k) (h2 : k ≤ n) : co n x k = 0 := by
  rcases pkF_spec (n := n) (x := x) n 1 (Nat.le_refl _) with ⟨_, g⟩ | ⟨g, _⟩
  · exact g k h1 (by omega)
  · unfold pk at h; omega
theorem pk_at {n : Nat} {x : List Int} (h : pk n x ≠ 0) : co n x (pk n x) ≠ 0 := by
  rcases pkF_spec (n := n) (x := x) n 1 (Nat.le_refl _) with ⟨g, _⟩ | ⟨_, _, g, _⟩
  · exact absurd g h
  · exact g
theorem pk_before {n : Nat} {x : List Int} {k : Nat} (h1 : 1 ≤ k) (h2 : k < pk n x) : co n x k = 0 := by
  rcases pkF_spec (n := n) (x := x) n 1 (Nat.le_refl _) with ⟨g, _⟩ | ⟨_, _, _, g⟩
  · unfold pk at h2; omega
  · exact g k h1 h2
theorem pk_of {n : Nat} {x : List Int} {k : Nat} (h1 : 1 ≤ k) (h2 : k ≤ n) (h : co n x k ≠ 0) (hb : ∀ j, 1 ≤ j → j < k → co n x j = 0) : pk n x = k := by
  have h0 : pk n x ≠ 0 := fun e => h (pk_zero e h1 h2)
  rcases Nat.lt_trichotomy (pk n x) k with g | g | g
  · exact absurd (hb _ (by omega) g) (pk_at h0)
  · exact g
  · exact absurd (pk_before h1 g) h
theorem pk_none {n : Nat} {x : List Int} (h : ∀ k, 1 ≤ k → k ≤ n → co n x k = 0) : pk n x = 0 := by
  rcases Nat.eq_zero_or_pos (pk n x) with g | g
  · exact g
  · exact absurd (h _ g pk_le) (pk_at (by omega))

-- lowest terms
theorem tq_one (x : Int) : tq x 1 = x := by
  unfold tq
  simp
  split <;> omega
theorem lowV_one {x : List Int} (h : gcdV x = 1) : lowV x = x := by
  unfold lowV
  rw [if_neg (by omega), h]
  rw [show (fun x => tq x ((1 : Nat) : Int)) = id from funext fun x => tq_one x]
  simp
theorem lowV_nought {x : List Int} (h : gcdV x = 0) : lowV x = x := if_pos h
theorem gcd_lowV {x : List Int} (h : gcdV x ≠ 0) : gcdV (lowV x) = 1 := by
  unfold lowV
  rw [if_neg h]
  exact gcdV_low h
theorem lowV_lowV (x : List Int) : lowV (lowV x) = lowV x := by
  by_cases h : gcdV x = 0
  · rw [lowV_nought h, lowV_nought h]
  · exact lowV_one (gcd_lowV h)
theorem co_low {n : Nat} (x : List Int) (k : Nat) : co n x k = co n (lowV x) k * (gcdV x : Int) := by
  conv => lhs; rw [← lowV_back x]
  exact co_scale _ _
theorem co_low_zero {n : Nat} {x : List Int} {k : Nat} : co n (lowV x) k = 0 ↔ co n x k = 0 := by
  by_cases h : gcdV x = 0
  · rw [lowV_nought h]
  · rw [co_low x k, Int.mul_eq_zero]
    constructor
    · exact .inl
    · rintro (g | g)
      · exact g
      · omega
theorem co_low_pos {n : Nat} {x : List Int} {k : Nat} : 0 < co n (lowV x) k ↔ 0 < co n x k := by
  by_cases h : gcdV x = 0
  · rw [lowV_nought h]
  · have hg : 0 < (gcdV x : Int) := by omega
    rw [co_low x k]
    constructor
    · exact fun g => Int.mul_pos g hg
    · exact fun g => Int.pos_of_mul_pos_left g hg
theorem pk_congr {n : Nat} {x y : List Int} (h : ∀ k, 1 ≤ k → k ≤ n → (co n x k = 0 ↔ co n y k = 0)) : pk n x = pk n y := by
  by_cases h0 : pk n y = 0
  · rw [h0]
    exact pk_none fun k h1 h2 => (h k h1 h2).2 (pk_zero h0 h1 h2)
  · exact pk_of (by omega) pk_le (fun e => pk_at h0 ((h _ (by omega) pk_le).1 e)) fun j h1 h2 => (h j h1 (by have := pk_le (n := n) (x := y); omega)).2 (pk_before h1 h2)
theorem pk_low {n : Nat} {x : List Int} : pk n (lowV x) = pk n x := pk_congr fun _ _ _ => co_low_zero
theorem gcdV_nought {n : Nat} {x : List Int} (hx : x.length = n) : gcdV x = 0 ↔ pk n x = 0 := by
  rw [gcdV_zero]
  constructor
  · exact fun h => pk_none fun k h1 h2 => h _ (co_mem hx (by omega))
  · intro h a ha
    obtain ⟨k, h1, h2, rfl⟩ := mem_co hx ha
    exact pk_zero h h1 h2

/-- A row less so much of another one that it has 0 at a place. -/
def wo (n : Nat) (a r : List Int) (k : Nat) : List Int := if co n a k = 0 then a else lowV (mixV (co n r k) a (-co n a k) r)
theorem wo_length {n : Nat} {a r : List Int} {k : Nat} (ha : a.length = n) (hr : r.length = n) : (wo n a r k).length = n := by
  unfold wo
  split
  · exact ha
  · rw [lowV_length, mixV_length ha hr]
theorem wo_at {n : Nat} {a r : List Int} {k : Nat} (ha : a.length = n) (hr : r.length = n) : co n (wo n a r k) k = 0 := by
  unfold wo
  split
  · assumption
  · rw [co_low_zero, co_mix ha hr]
    grind
theorem wo_zero {n : Nat} {a r : List Int} {k j : Nat} (ha : a.length = n) (hr : r.length = n) (h1 : co n a j = 0) (h2 : co n r j = 0) : co n (wo n a r k) j = 0 := by
  unfold wo
  split
  · exact h1
  · rw [co_low_zero, co_mix ha hr, h1, h2]
    simp
theorem wo_zero_iff {n : Nat} {a r : List Int} {k j : Nat} (ha : a.length = n) (hr : r.length = n) (hk : co n r k ≠ 0) (h2 : co n r j = 0) : co n (wo n a r k) j = 0 ↔ co n a j = 0 := by
  unfold wo
  split
  · exact Iff.rfl
  · rw [co_low_zero, co_mix ha hr, h2, Int.mul_zero, Int.add_zero, Int.mul_eq_zero]
    exact ⟨fun h => h.resolve_left hk, .inr⟩
theorem wo_pos {n : Nat} {a r : List Int} {k j : Nat} (ha : a.length = n) (hr : r.length = n) (hk : 0 < co n r k) (h2 : co n r j = 0) (h : 0 < co n a j) : 0 < co n (wo n a r k) j := by
  unfold wo
  split
  · exact h
  · rw [co_low_pos, co_mix ha hr, h2, Int.mul_zero, Int.add_zero]
    exact Int.mul_pos hk h
theorem wo_low {n : Nat} {a r : List Int} {k : Nat} (h : lowV a = a) : lowV (wo n a r k) = wo n a r k := by
  unfold wo
  split
  · exact h
  · exact lowV_lowV _

/-- What rows make. -/
inductive Sp (n : Nat) (L : List (List Int)) : List Int → Prop
  | mem {x : List Int} : x ∈ L → Sp n L x
  | zero : Sp n L (List.replicate n 0)
  | mix {x y : List Int} (a b : Int) : Sp n L x → Sp n L y → Sp n L (mixV a x b y)
  | div {x : List Int} (c : Int) : c ≠ 0 → x.length = n → Sp n L (x.map fun a => a * c) → Sp n L x

theorem Sp.len {n : Nat} {L : List (List Int)} (hL : ∀ r ∈ L, r.length = n) {x : List Int} (h : Sp n L x) : x.length = n := by
  induction h with
  | mem h => exact hL _ h
  | zero => simp
  | mix a b _ _ h1 h2 => exact mixV_length h1 h2
  | div c _ h _ => exact h
theorem Sp.sub {n : Nat} {L M : List (List Int)} (h : ∀ r ∈ L, Sp n M r) {x : List Int} (hx : Sp n L x) : Sp n M x := by
  induction hx with
  | mem h1 => exact h _ h1
  | zero => exact .zero
  | mix a b _ _ h1 h2 => exact .mix a b h1 h2
  | div c h1 h2 _ h3 => exact .div c h1 h2 h3
theorem Sp.scale {n : Nat} {L : List (List Int)} (hL : ∀ r ∈ L, r.length = n) {x : List Int} (t : Int) (h : Sp n L x) : Sp n L (x.map fun a => a * t) := by
  have hl := h.len hL
  have e : (x.map fun a => a * t) = mixV t x 0 x := co_ext (n := n) (by simpa using hl) (mixV_length hl hl) fun k _ _ => by
    rw [co_scale, co_mix hl hl]; grind
  rw [e]
  exact .mix t 0 h h
theorem Sp.low {n : Nat} {L : List (List Int)} (hL : ∀ r ∈ L, r.length = n) {x : List Int} (hx : x.length = n) : Sp n L (lowV x) ↔ Sp n L x := by
  constructor
  · intro h
    have := h.scale hL (gcdV x : Int)
    rwa [lowV_back] at this
  · intro h
    by_cases hg : gcdV x = 0
    · rwa [lowV_nought hg]
    · refine .div (gcdV x : Int) (by omega) (by rw [lowV_length, hx]) ?_
      rwa [lowV_back]
theorem Sp.wo {n : Nat} {L : List (List Int)} (hL : ∀ r ∈ L, r.length = n) {a r : List Int} {k : Nat} (h1 : Sp n L a) (h2 : Sp n L r) : Sp n L (Go.Proofs.YtajmijnoikkffaaGreat.wo n a r k) := by
  unfold Go.Proofs.YtajmijnoikkffaaGreat.wo
  split
  · exact h1
  · exact (Sp.low hL (mixV_length (h1.len hL) (h2.len hL))).2 (.mix _ _ h1 h2)
theorem Sp.of_wo {n : Nat} {L : List (List Int)} (hL : ∀ r ∈ L, r.length = n) {a r : List Int} {k : Nat} (ha : a.length = n) (hk : co n r k ≠ 0) (h1 : Sp n L (Go.Proofs.YtajmijnoikkffaaGreat.wo n a r k)) (h2 : Sp n L r) : Sp n L a := by
  unfold Go.Proofs.YtajmijnoikkffaaGreat.wo at h1
  split at h1
  · exact h1
  · have hr := h2.len hL
    have h3 := (Sp.low hL (mixV_length ha hr)).1 h1
    refine .div (co n r k) hk ha ?_
    have e : (a.map fun x => x * co n r k) = mixV 1 (mixV (co n r k) a (-co n a k) r) (co n a k) r := co_ext (n := n) (by simpa using ha) (mixV_length (mixV_length ha hr) hr) fun j _ _ => by
      rw [co_scale, co_mix (mixV_length ha hr) hr, co_mix ha hr]; grind
    rw [e]
    exact .mix _ _ h3 h2

/-- A row less what others make of it, one behind the other. -/
def rs (n : Nat) (F : List (List Int)) (a : List Int) : List Int := F.foldl (fun a r => wo n a r (pk n r)) a
theorem rs_length {n : Nat} : ∀ (F : List (List Int)) (a : List Int), (∀ r ∈ F, r.length = n) → a.length = n → (rs n F a).length = n := by
  intro F
  induction F with
  | nil => intro a _ h; exact h
  | cons r t ih => intro a h1 h2; exact ih _ (fun x hx => h1 x (by simp [hx])) (wo_length h2 (h1 r (by simp)))
theorem rs_zero {n j : Nat} : ∀ (F : List (List Int)) (a : List Int), (∀ r ∈ F, r.length = n) → a.length = n → co n a j = 0 → (∀ r ∈ F, co n r j = 0) → co n (rs n F a) j = 0 := by
  intro F
  induction F with
  | nil => intro a _ _ h _; exact h
  | cons r t ih =>
    intro a h1 h2 h3 h4
    exact ih _ (fun x hx => h1 x (by simp [hx])) (wo_length h2 (h1 r (by simp))) (wo_zero h2 (h1 r (by simp)) h3 (h4 r (by simp))) fun x hx => h4 x (by simp [hx])
theorem rs_low {n : Nat} : ∀ (F : List (List Int)) (a : List Int), lowV a = a → lowV (rs n F a) = rs n F a := by
  intro F
  induction F with
  | nil => intro a h; exact h
  | cons r t ih => intro a h; exact ih _ (wo_low h)
theorem rs_same {n : Nat} : ∀ (F : List (List Int)) (a : List Int), (∀ r ∈ F, co n a (pk n r) = 0) → rs n F a = a := by
  intro F
  induction F with
  | nil => intro a _; rfl
  | cons r t ih =>
    intro a h
    have e : wo n a r (pk n r) = a := if_pos (h r (by simp))
    show rs n t (wo n a r (pk n r)) = a
    rw [e]
    exact ih a fun x hx => h x (by simp [hx])
theorem Sp.rs {n : Nat} {L : List (List Int)} (hL : ∀ r ∈ L, r.length = n) : ∀ (F : List (List Int)) (a : List Int), (∀ r ∈ F, Sp n L r) → Sp n L a → Sp n L (Go.Proofs.YtajmijnoikkffaaGreat.rs n F a) := by
  intro F
  induction F with
  | nil => intro a _ h; exact h
  | cons r t ih => intro a h1 h2; exact ih _ (fun x hx => h1 x (by simp [hx])) (h2.wo hL (h1 r (by simp)))
theorem Sp.of_rs {n : Nat} {L : List (List Int)} (hL : ∀ r ∈ L, r.length = n) : ∀ (F : List (List Int)) (a : List Int), a.length = n → (∀ r ∈ F, pk n r ≠ 0) → (∀ r ∈ F, Sp n L r) → Sp n L (Go.Proofs.YtajmijnoikkffaaGreat.rs n F a) → Sp n L a := by
  intro F
  induction F with
  | nil => intro a _ _ _ h; exact h
  | cons r t ih =>
    intro a h1 h2 h3 h4
    have h5 := ih _ (wo_length h1 ((h3 r (by simp)).len hL)) (fun x hx => h2 x (by simp [hx])) (fun x hx => h3 x (by simp [hx])) h4
    exact Sp.of_wo hL h1 (pk_at (h2 r (by simp))) h5 (h3 r (by simp))

/-- An echelon form. -/
structure Inv (n : Nat) (F : List (List Int)) : Prop where
  len : ∀ r ∈ F, r.length = n
  piv : ∀ r ∈ F, pk n r ≠ 0
  pos : ∀ r ∈ F, 0 < co n r (pk n r)
  prim : ∀ r ∈ F, gcdV r = 1
  sorted : F.Pairwise fun a b => pk n a < pk n b
  off : ∀ a ∈ F, ∀ b ∈ F, pk n a ≠ pk n b → co n b (pk n a) = 0

theorem rs_pivots {n : Nat} : ∀ (F : List (List Int)) (a : List Int), (∀ r ∈ F, r.length = n) → a.length = n → F.Pairwise (fun a b => pk n a < pk n b) → (∀ a ∈ F, ∀ b ∈ F, pk n a ≠ pk n b → co n b (pk n a) = 0) → ∀ r ∈ F, co n (rs n F a) (pk n r) = 0 := by
  intro F
  induction F with
  | nil => intro a _ _ _ _ r hr; cases hr
  | cons r t ih =>
    intro a h1 h2 h3 h4 x hx
    rw [List.pairwise_cons] at h3
    have hl := wo_length (k := pk n r) h2 (h1 r (by simp))
    rcases List.mem_cons.1 hx with rfl | hx
    · exact rs_zero t _ (fun y hy => h1 y (by simp [hy])) hl (wo_at h2 (h1 x (by simp))) fun y hy => h4 x (by simp) y (by simp [hy]) (by have := h3.1 y hy; omega)
    · exact ih _ (fun y hy => h1 y (by simp [hy])) hl h3.2 (fun y hy z hz => h4 y (by simp [hy]) z (by simp [hz])) x hx

-- the same, without dividing: linear
def st (n : Nat) (r : List Int) (f : Nat → Int) : Nat → Int := fun q => co n r (pk n r) * f q - f (pk n r) * co n r q
def red (n : Nat) (F : List (List Int)) (f : Nat → Int) : Nat → Int := F.foldl (fun f r => st n r f) f
theorem red_lin {n : Nat} : ∀ (F : List (List Int)) (f g : Nat → Int) (a b : Int), red n F (fun q => a * f q + b * g q) = fun q => a * red n F f q + b * red n F g q := by
  intro F
  induction F with
  | nil => intro f g a b; rfl
  | cons r t ih =>
    intro f g a b
    show red n t (st n r _) = _
    have e : st n r (fun q => a * f q + b * g q) = fun q => a * st n r f q + b * st n r g q := by
      funext q
      unfold st
      grind
    rw [e, ih]
    rfl
theorem red_zero {n : Nat} : ∀ (F : List (List Int)), red n F (fun _ => 0) = fun _ => 0 := by
  intro F
  induction F with
  | nil => rfl
  | cons r t ih =>
    show red n t (st n r _) = _
    have e : st n r (fun _ => 0) = fun _ => 0 := by funext q; unfold st; simp
    rw [e, ih]
theorem red_scale {n : Nat} (F : List (List Int)) (f : Nat → Int) (c : Int) : red n F (fun q => c * f q) = fun q => c * red n F f q := by
  have := red_lin (n := n) F f f c 0
  simpa using this
theorem red_mem {n : Nat} : ∀ (F : List (List Int)), F.Pairwise (fun a b => pk n a < pk n b) → (∀ a ∈ F, ∀ b ∈ F, pk n a ≠ pk n b → co n b (pk n a) = 0) → ∀ x ∈ F, red n F (co n x) = fun _ => 0 := by
  intro F
  induction F with
  | nil => intro _ _ x hx; cases hx
  | cons r t ih =>
    intro h1 h2 x hx
    rw [List.pairwise_cons] at h1
    show red n t (st n r (co n x)) = _
    rcases List.mem_cons.1 hx with rfl | hx
    · have e : st n x (co n x) = fun _ => 0 := by funext q; unfold st; grind
      rw [e, red_zero]
    · have h0 : co n x (pk n r) = 0 := h2 r (by simp) x (by simp [hx]) (by have := h1.1 x hx; omega)
      have e : st n r (co n x) = fun q => co n r (pk n r) * co n x q := by funext q; unfold st; rw [h0]; simp
      rw [e, red_scale, ih h1.2 (fun a ha b hb => h2 a (by simp [ha]) b (by simp [hb])) x hx]
      funext q
      simp
theorem red_span {n : Nat} {F : List (List Int)} (h : Inv n F) {x : List Int} (hx : Sp n F x) : red n F (co n x) = fun _ => 0 := by
  induction hx with
  | mem h1 => exact red_mem F h.sorted h.off _ h1
  | zero =>
    have e : co n (List.replicate n 0) = fun _ => 0 := funext fun k => co_zero
    rw [e, red_zero]
  | mix a b h1 h2 h3 h4 =>
    have e : co n (mixV a _ b _) = fun q => a * co n _ q + b * co n _ q := funext fun k => co_mix (h1.len h.len) (h2.len h.len) k
    rw [e, red_lin, h3, h4]
    funext q
    simp
  | div c hc hl h1 h2 =>
    rename_i x
    have e : co n (x.map fun a => a * c) = fun q => c * co n x q := funext fun k => by rw [co_scale]; grind
    rw [e, red_scale] at h2
    funext q
    have h3 : c * red n F (co n x) q = 0 := congrFun h2 q
    rcases Int.mul_eq_zero.1 h3 with h4 | h4
    · exact absurd h4 hc
    · exact h4
theorem red_free {n : Nat} : ∀ (F : List (List Int)) (f : Nat → Int), (∀ r ∈ F, pk n r ≠ 0) → (∀ r ∈ F, f (pk n r) = 0) → ∃ c : Int, c ≠ 0 ∧ red n F f = fun q => c * f q := by
  intro F
  induction F with
  | nil => intro f _ _; exact ⟨1, by decide, by funext q; simp [red]⟩
  | cons r t ih =>
    intro f h1 h2
    have e : st n r f = fun q => co n r (pk n r) * f q := by funext q; unfold st; rw [h2 r (by simp)]; simp
    obtain ⟨c, hc, h3⟩ := ih f (fun x hx => h1 x (by simp [hx])) fun x hx => h2 x (by simp [hx])
    refine ⟨co n r (pk n r) * c, fun h => ?_, ?_⟩
    · rcases Int.mul_eq_zero.1 h with h4 | h4
      · exact pk_at (h1 r (by simp)) h4
      · exact hc h4
    · show red n t (st n r f) = _
      rw [e, red_scale, h3]
      funext q
      grind
/-- What an echelon form makes, and is 0 at all pivots, is 0. -/
theorem Inv.zero {n : Nat} {F : List (List Int)} (h : Inv n F) {x : List Int} (hx : Sp n F x) (h0 : ∀ r ∈ F, co n x (pk n r) = 0) (k : Nat) : co n x k = 0 := by
  obtain ⟨c, hc, h1⟩ := red_free F (co n x) h.piv h0
  rw [red_span h hx] at h1
  have h9 : 0 = c * co n x k := congrFun h1 k
  rcases Int.mul_eq_zero.1 h9.symm with h2 | h2
  · exact absurd h2 hc
  · exact h2
theorem red_first {n : Nat} : ∀ (F : List (List Int)) (f : Nat → Int) (q : Nat), 1 ≤ q → (∀ r ∈ F, pk n r ≠ 0) → (∀ r ∈ F, pk n r ≠ q) → f q ≠ 0 → (∀ j, 1 ≤ j → j < q → f j = 0) → red n F f q ≠ 0 := by
  intro F
  induction F with
  | nil => intro f q _ _ _ h _; exact h
  | cons r t ih =>
    intro f q h0 h1 h2 h3 h4
    have hp := h1 r (by simp)
    have hq := h2 r (by simp)
    refine ih (st n r f) q h0 (fun x hx => h1 x (by simp [hx])) (fun x hx => h2 x (by simp [hx])) ?_ ?_
    · have e : f (pk n r) * co n r q = 0 := by
        rcases Nat.lt_or_ge (pk n r) q with g | g
        · rw [h4 _ (by omega) g, Int.zero_mul]
        · rw [pk_before h0 (show q < pk n r by omega), Int.mul_zero]
      unfold st
      rw [e, Int.sub_zero]
      intro g
      rcases Int.mul_eq_zero.1 g with g | g
      · exact pk_at hp g
      · exact h3 g
    · intro j g1 g2
      have e : f (pk n r) * co n r j = 0 := by
        rcases Nat.lt_or_ge (pk n r) q with g | g
        · rw [h4 _ (by omega) g, Int.zero_mul]
        · rw [pk_before g1 (show j < pk n r by omega), Int.mul_zero]
      unfold st
      rw [e, h4 j g1 g2]
      simp
/-- Where what an echelon form makes begins: at a pivot. -/
theorem Inv.first {n : Nat} {F : List (List Int)} (h : Inv n F) {x : List Int} (hx : Sp n F x) (h0 : pk n x ≠ 0) : ∃ r ∈ F, pk n r = pk n x := by
  rcases Classical.em (∃ r ∈ F, pk n r = pk n x) with g | g
  · exact g
  · have h1 := red_first F (co n x) (pk n x) (by omega) h.piv (fun r hr e => g ⟨r, hr, e⟩) (pk_at h0) fun j g1 g2 => pk_before g1 g2
    rw [red_span h hx] at h1
    exact absurd rfl h1

theorem gcdV_scale (x : List Int) (t : Int) : gcdV (x.map fun a => a * t) = gcdV x * t.natAbs := by
  refine gcdV_mul ?_
  rw [List.map_map]
  refine List.map_congr_left fun a _ => ?_
  exact Int.natAbs_mul _ _
/-- Two rows in lowest terms, in proportion, above 0 at a place. -/
theorem prim_eq {n : Nat} {x y : List Int} {p : Nat} (hx : x.length = n) (hy : y.length = n) (gx : gcdV x = 1) (gy : gcdV y = 1) (px : 0 < co n x p) (py : 0 < co n y p) (h : ∀ k, co n y p * co n x k = co n x p * co n y k) : x = y := by
  have e : (x.map fun a => a * co n y p) = y.map fun a => a * co n x p := co_ext (n := n) (by simpa using hx) (by simpa using hy) fun k _ _ => by
    rw [co_scale, co_scale]
    have := h k
    grind
  have e2 := congrArg gcdV e
  rw [gcdV_scale, gcdV_scale, gx, gy] at e2
  have e3 : co n y p = co n x p := by omega
  refine co_ext hx hy fun k _ _ => ?_
  have := h k
  rw [e3] at this
  exact Int.eq_of_mul_eq_mul_left (by omega) this

theorem sorted_sub : ∀ (B A : List Nat), A.Pairwise (· < ·) → B.Pairwise (· < ·) → (∀ x ∈ A, x ∈ B) → A.Sublist B := by
  intro B
  induction B with
  | nil =>
    intro A _ _ h
    cases A with
    | nil => exact List.Sublist.refl _
    | cons a t => have := h a (by simp); simp at this
  | cons b B ih =>
    intro A h1 h2 h
    cases A with
    | nil => exact List.nil_sublist _
    | cons a t =>
      rw [List.pairwise_cons] at h1 h2
      by_cases e : a = b
      · subst e
        refine List.Sublist.cons_cons _ (ih t h1.2 h2.2 fun x hx => ?_)
        have g := h1.1 x hx
        rcases List.mem_cons.1 (h x (by simp [hx])) with rfl | g2
        · omega
        · exact g2
      · have ha : a ∈ B := by
          rcases List.mem_cons.1 (h a (by simp)) with g | g
          · exact absurd g e
          · exact g
        have hb := h2.1 a ha
        refine List.Sublist.cons _ (ih (a :: t) (List.pairwise_cons.2 h1) h2.2 fun x hx => ?_)
        rcases List.mem_cons.1 hx with rfl | hx
        · exact ha
        · have g := h1.1 x hx
          rcases List.mem_cons.1 (h x (by simp [hx])) with rfl | g2
          · omega
          · exact g2
theorem Inv.pks {n : Nat} {F : List (List Int)} (h : Inv n F) : (F.map (pk n)).Pairwise (· < ·) := by
  rw [List.pairwise_map]
  exact h.sorted
theorem Inv.sub {n : Nat} {F G : List (List Int)} (h : Inv n F) (g : Inv n G) (hs : ∀ r ∈ F, Sp n G r) : (F.map (pk n)).Sublist (G.map (pk n)) := by
  refine sorted_sub _ _ h.pks g.pks fun x hx => ?_
  obtain ⟨r, hr, rfl⟩ := List.mem_map.1 hx
  obtain ⟨r', hr', e⟩ := g.first (hs r hr) (h.piv r hr)
  exact List.mem_map.2 ⟨r', hr', e⟩
theorem Inv.lengths {n : Nat} {F G : List (List Int)} (h : Inv n F) (g : Inv n G) (hs : ∀ r ∈ F, Sp n G r) : F.length ≤ G.length := by
  have := (h.sub g hs).length_le
  simpa using this
theorem rows_eq {n : Nat} : ∀ (F G : List (List Int)), F.map (pk n) = G.map (pk n) → (∀ r ∈ F, ∀ s ∈ G, pk n r = pk n s → r = s) → F = G := by
  intro F
  induction F with
  | nil => intro G h _; cases G with
    | nil => rfl
    | cons => simp at h
  | cons r t ih => intro G h h2; cases G with
    | nil => simp at h
    | cons s u =>
      simp only [List.map_cons, List.cons.injEq] at h
      rw [h2 r (by simp) s (by simp) h.1, ih u h.2 fun x hx y hy => h2 x (by simp [hx]) y (by simp [hy])]
/-- Echelon forms of one length, the one made by the other one, are the same. -/
theorem Inv.eq {n : Nat} {F G : List (List Int)} (h : Inv n F) (g : Inv n G) (hs : ∀ r ∈ F, Sp n G r) (hl : F.length = G.length) : F = G := by
  have hp : F.map (pk n) = G.map (pk n) := (h.sub g hs).eq_of_length (by simpa using hl)
  refine rows_eq F G hp fun r hr s hs' e => ?_
  have lr := h.len r hr
  have ls := g.len s hs'
  have hz : ∀ k, co n (mixV (co n s (pk n s)) r (-co n r (pk n s)) s) k = 0 := by
    refine g.zero (.mix _ _ (hs r hr) (.mem hs')) fun t ht => ?_
    rw [co_mix lr ls]
    by_cases e2 : pk n t = pk n s
    · rw [e2]; grind
    · have h1 : co n s (pk n t) = 0 := g.off t ht s hs' e2
      have hm : pk n t ∈ F.map (pk n) := by rw [hp]; exact List.mem_map.2 ⟨t, ht, rfl⟩
      obtain ⟨t', ht', e3⟩ := List.mem_map.1 hm
      have h2 : co n r (pk n t') = 0 := h.off t' ht' r hr (by omega)
      rw [e3] at h2
      rw [h1, h2]
      simp
  refine prim_eq (p := pk n s) lr ls (h.prim r hr) (g.prim s hs') (by rw [← e]; exact h.pos r hr) (g.pos s hs') fun k => ?_
  have := hz k
  rw [co_mix lr ls] at this
  grind
/-- Echelon forms that make the same are the same. -/
theorem Inv.same {n : Nat} {F G : List (List Int)} (h : Inv n F) (g : Inv n G) (h1 : ∀ r ∈ F, Sp n G r) (h2 : ∀ r ∈ G, Sp n F r) : F = G :=
  h.eq g h1 (Nat.le_antisymm (h.lengths g h1) (g.lengths h h2))
theorem Inv.many {n : Nat} {F : List (List Int)} (h : Inv n F) : (F.map (pk n)).Sublist (List.range' 1 n) := by
  refine sorted_sub _ _ h.pks List.pairwise_lt_range' fun x hx => ?_
  obtain ⟨r, hr, rfl⟩ := List.mem_map.1 hx
  have := h.piv r hr
  have := pk_le (n := n) (x := r)
  rw [List.mem_range'_1]
  omega
theorem Inv.le {n : Nat} {F : List (List Int)} (h : Inv n F) : F.length ≤ n := by
  have := h.many.length_le
  simpa using this
theorem Inv.full {n : Nat} {F : List (List Int)} (h : Inv n F) (hl : F.length = n) {k : Nat} (h1 : 1 ≤ k) (h2 : k ≤ n) : ∃ r ∈ F, pk n r = k := by
  have e : F.map (pk n) = List.range' 1 n := h.many.eq_of_length (by simp [hl])
  have hm : k ∈ F.map (pk n) := by rw [e, List.mem_range'_1]; omega
  exact List.mem_map.1 hm

end Go.Proofs.YtajmijnoikkffaaGreat

namespace Go.Proofs.YtajmijnoikkffaaGreat
open Go.RowKit
set_option linter.unusedVariables false
set_option linter.unusedSimpArgs false

/-- A row less what an echelon form makes of it. -/
def restF (n : Nat) (F : List (List Int)) (x : List Int) : List Int := rs n F (lowV x)
/-- Above 0 at a place. -/
def upV (n : Nat) (a : List Int) (k : Nat) : List Int := if co n a k < 0 then a.map (fun x => x * (-1)) else a
/-- A row into an echelon form, ahead of the first row that begins behind it. -/
def insF (n : Nat) (F : List (List Int)) (a : List Int) (k : Nat) : List (List Int) := F.takeWhile (fun r => decide (pk n r < k)) ++ a :: F.dropWhile (fun r => decide (pk n r < k))
/-- A row, not 0 from k on, put into an echelon form. -/
def putA (n : Nat) (F : List (List Int)) (a : List Int) : List (List Int) := insF n (F.map fun r => wo n r (upV n a (pk n a)) (pk n a)) (upV n a (pk n a)) (pk n a)
def putF (n : Nat) (F : List (List Int)) (x : List Int) : List (List Int) := if pk n (restF n F x) = 0 then F else putA n F (restF n F x)
def formF (n : Nat) (l : List (List Int)) : List (List Int) := l.foldl (putF n) []

theorem Inv.nil (n : Nat) : Inv n [] := ⟨by simp, by simp, by simp, by simp, List.Pairwise.nil, by simp⟩
theorem restF_length {n : Nat} {F : List (List Int)} {x : List Int} (h : ∀ r ∈ F, r.length = n) (hx : x.length = n) : (restF n F x).length = n := rs_length _ _ h (by rw [lowV_length, hx])
theorem restF_low {n : Nat} {F : List (List Int)} {x : List Int} : lowV (restF n F x) = restF n F x := rs_low _ _ (lowV_lowV x)
theorem restF_pivots {n : Nat} {F : List (List Int)} {x : List Int} (h : Inv n F) (hx : x.length = n) : ∀ r ∈ F, co n (restF n F x) (pk n r) = 0 := rs_pivots _ _ h.len (by rw [lowV_length, hx]) h.sorted h.off
theorem Sp.restF {n : Nat} {L F : List (List Int)} {x : List Int} (hL : ∀ r ∈ L, r.length = n) (hF : ∀ r ∈ F, Sp n L r) (hx : Sp n L x) : Sp n L (Go.Proofs.YtajmijnoikkffaaGreat.restF n F x) := Sp.rs hL F _ hF ((Sp.low hL (hx.len hL)).2 hx)
theorem Sp.of_restF {n : Nat} {L F : List (List Int)} {x : List Int} (hL : ∀ r ∈ L, r.length = n) (h : ∀ r ∈ F, pk n r ≠ 0) (hF : ∀ r ∈ F, Sp n L r) (hx : x.length = n) (h1 : Sp n L (Go.Proofs.YtajmijnoikkffaaGreat.restF n F x)) : Sp n L x :=
  (Sp.low hL hx).1 (Sp.of_rs hL F _ (by rw [lowV_length, hx]) h hF h1)

theorem upV_length {n : Nat} {a : List Int} {k : Nat} (ha : a.length = n) : (upV n a k).length = n := by
  unfold upV
  split
  · simpa using ha
  · exact ha
theorem upV_zero {n : Nat} {a : List Int} {k j : Nat} : co n (upV n a k) j = 0 ↔ co n a j = 0 := by
  unfold upV
  split
  · rw [co_scale]; omega
  · exact Iff.rfl
theorem upV_pos {n : Nat} {a : List Int} {k : Nat} (h : co n a k ≠ 0) : 0 < co n (upV n a k) k := by
  unfold upV
  split
  · rw [co_scale]; omega
  · omega
theorem upV_pk {n : Nat} {a : List Int} {k : Nat} : pk n (upV n a k) = pk n a := pk_congr fun _ _ _ => upV_zero
theorem upV_gcd {n : Nat} {a : List Int} {k : Nat} : gcdV (upV n a k) = gcdV a := by
  unfold upV
  split
  · rw [gcdV_scale]; simp
  · rfl
theorem Sp.upV {n : Nat} {L : List (List Int)} (hL : ∀ r ∈ L, r.length = n) {a : List Int} {k : Nat} (ha : a.length = n) : Sp n L (Go.Proofs.YtajmijnoikkffaaGreat.upV n a k) ↔ Sp n L a := by
  unfold Go.Proofs.YtajmijnoikkffaaGreat.upV
  split
  · exact ⟨fun h => .div (-1) (by decide) ha h, fun h => h.scale hL (-1)⟩
  · exact Iff.rfl

theorem low_gcd {n : Nat} {a : List Int} (ha : a.length = n) (h : lowV a = a) (h0 : pk n a ≠ 0) : gcdV a = 1 := by
  have hg : gcdV a ≠ 0 := fun e => h0 ((gcdV_nought ha).1 e)
  rw [← h]
  exact gcd_lowV hg

/-- The rows of an echelon form, behind a new one. -/
theorem wo_row {n : Nat} {r a : List Int} {k : Nat} (hr : r.length = n) (ha : a.length = n) (hk : 1 ≤ k) (hak : 0 < co n a k) (hpk : pk n a = k) (hp : pk n r ≠ 0) (hpa : co n a (pk n r) = 0) :
    pk n (wo n r a k) = pk n r ∧ ∀ j, co n a j = 0 → (co n (wo n r a k) j = 0 ↔ co n r j = 0) := by
  have hz : ∀ j, co n a j = 0 → (co n (wo n r a k) j = 0 ↔ co n r j = 0) := fun j hj => wo_zero_iff hr ha (by omega) hj
  refine ⟨?_, hz⟩
  rcases Nat.lt_or_ge k (pk n r) with g | g
  · have e : wo n r a k = r := if_pos (pk_before hk g)
    rw [e]
  · have hne : pk n r ≠ k := fun e => by rw [e] at hpa; omega
    refine pk_of (by omega) pk_le ?_ fun j h1 h2 => ?_
    · intro e
      exact pk_at hp ((hz _ hpa).1 e)
    · exact (hz j (pk_before h1 (by omega))).2 (pk_before h1 h2)

theorem insF_mem {n : Nat} {F : List (List Int)} {a : List Int} {k : Nat} {x : List Int} : x ∈ insF n F a k ↔ x = a ∨ x ∈ F := by
  unfold insF
  have e : F = F.takeWhile (fun r => decide (pk n r < k)) ++ F.dropWhile (fun r => decide (pk n r < k)) := List.takeWhile_append_dropWhile.symm
  constructor
  · intro h
    rw [List.mem_append, List.mem_cons] at h
    rcases h with h | h | h
    · exact .inr (by rw [e]; exact List.mem_append_left _ h)
    · exact .inl h
    · exact .inr (by rw [e]; exact List.mem_append_right _ h)
  · rintro (h | h)
    · rw [List.mem_append, List.mem_cons]; exact .inr (.inl h)
    · rw [e, List.mem_append] at h
      rw [List.mem_append, List.mem_cons]
      rcases h with h | h
      · exact .inl h
      · exact .inr (.inr h)
theorem insF_length {n : Nat} {F : List (List Int)} {a : List Int} {k : Nat} : (insF n F a k).length = F.length + 1 := by
  have e := congrArg List.length (List.takeWhile_append_dropWhile (p := fun r => decide (pk n r < k)) (l := F))
  unfold insF
  rw [List.length_append, List.length_cons]
  rw [List.length_append] at e
  omega
theorem insF_cons {n : Nat} {r : List Int} {F : List (List Int)} {a : List Int} {k : Nat} : insF n (r :: F) a k = if pk n r < k then r :: insF n F a k else a :: r :: F := by
  unfold insF
  by_cases h : pk n r < k
  · rw [if_pos h, List.takeWhile_cons_of_pos (by simpa using h), List.dropWhile_cons_of_pos (by simpa using h)]
    rfl
  · rw [if_neg h, List.takeWhile_cons_of_neg (by simpa using h), List.dropWhile_cons_of_neg (by simpa using h)]
    rfl
theorem insF_sorted {n : Nat} {a : List Int} {k : Nat} (hk : pk n a = k) : ∀ (F : List (List Int)), F.Pairwise (fun a b => pk n a < pk n b) → (∀ r ∈ F, pk n r ≠ k) → (insF n F a k).Pairwise (fun a b => pk n a < pk n b) := by
  intro F
  induction F with
  | nil => intro _ _; exact List.pairwise_singleton _ _
  | cons r t ih =>
    intro h1 h2
    rw [insF_cons]
    have h3 := h1
    rw [List.pairwise_cons] at h1
    split
    · rename_i hlt
      refine List.pairwise_cons.2 ⟨fun x hx => ?_, ih h1.2 fun x hx => h2 x (by simp [hx])⟩
      rcases insF_mem.1 hx with rfl | hx
      · omega
      · exact h1.1 x hx
    · rename_i hlt
      have h4 := h2 r (by simp)
      refine List.pairwise_cons.2 ⟨fun x hx => ?_, h3⟩
      rcases List.mem_cons.1 hx with rfl | hx
      · omega
      · have := h1.1 x hx; omega

theorem putA_inv {n : Nat} {F : List (List Int)} {a : List Int} (h : Inv n F) (ha : a.length = n) (hl : lowV a = a) (h0 : pk n a ≠ 0) (hp : ∀ r ∈ F, co n a (pk n r) = 0) : Inv n (putA n F a) := by
  obtain ⟨k, hk⟩ : ∃ k, k = pk n a := ⟨_, rfl⟩
  obtain ⟨b, hb⟩ : ∃ b, b = upV n a k := ⟨_, rfl⟩
  have e : putA n F a = insF n (F.map fun r => wo n r b k) b k := by unfold putA; rw [hb, hk]
  have lb : b.length = n := by rw [hb]; exact upV_length ha
  have pb : pk n b = k := by rw [hb, upV_pk, hk]
  have ub : 0 < co n b k := by rw [hb]; exact upV_pos (by rw [hk]; exact pk_at h0)
  have gb : gcdV b = 1 := by rw [hb, upV_gcd]; exact low_gcd ha hl h0
  have zb : ∀ r ∈ F, co n b (pk n r) = 0 := fun r hr => by rw [hb]; exact upV_zero.2 (hp r hr)
  have hk1 : 1 ≤ k := by omega
  have hne : ∀ r ∈ F, pk n r ≠ k := fun r hr g => by have := zb r hr; rw [g] at this; omega
  have hrow := fun r hr => wo_row (n := n) (r := r) (a := b) (k := k) (h.len r hr) lb hk1 ub pb (h.piv r hr) (zb r hr)
  rw [e]
  have hcases : ∀ x ∈ insF n (F.map fun r => wo n r b k) b k, x = b ∨ ∃ r ∈ F, x = wo n r b k := fun x hx => by
    rcases insF_mem.1 hx with g | g
    · exact .inl g
    · obtain ⟨r, hr, g⟩ := List.mem_map.1 g
      exact .inr ⟨r, hr, g.symm⟩
  have hpos : ∀ r ∈ F, 0 < co n (wo n r b k) (pk n r) := fun r hr => wo_pos (h.len r hr) lb ub (zb r hr) (h.pos r hr)
  refine ⟨fun x hx => ?_, fun x hx => ?_, fun x hx => ?_, fun x hx => ?_, ?_, fun x hx y hy hxy => ?_⟩
  · rcases hcases x hx with rfl | ⟨r, hr, rfl⟩
    · exact lb
    · exact wo_length (h.len r hr) lb
  · rcases hcases x hx with rfl | ⟨r, hr, rfl⟩
    · omega
    · rw [(hrow r hr).1]; exact h.piv r hr
  · rcases hcases x hx with rfl | ⟨r, hr, rfl⟩
    · rw [pb]; exact ub
    · rw [(hrow r hr).1]; exact hpos r hr
  · rcases hcases x hx with rfl | ⟨r, hr, rfl⟩
    · exact gb
    · refine low_gcd (n := n) (wo_length (h.len r hr) lb) (wo_low (lowV_one (h.prim r hr))) ?_
      rw [(hrow r hr).1]; exact h.piv r hr
  · refine insF_sorted pb _ ?_ fun x hx => ?_
    · rw [List.pairwise_map]
      exact h.sorted.imp_of_mem fun {x y} hx hy g => by rw [(hrow x hx).1, (hrow y hy).1]; exact g
    · obtain ⟨r, hr, rfl⟩ := List.mem_map.1 hx
      rw [(hrow r hr).1]; exact hne r hr
  · rcases hcases x hx with rfl | ⟨r, hr, rfl⟩
    · rcases hcases y hy with rfl | ⟨s, hs, rfl⟩
      · exact absurd rfl hxy
      · rw [pb]; exact wo_at (h.len s hs) lb
    · rw [(hrow r hr).1] at hxy ⊢
      rcases hcases y hy with rfl | ⟨s, hs, rfl⟩
      · exact zb r hr
      · rw [(hrow s hs).1] at hxy
        exact wo_zero (h.len s hs) lb (h.off r hr s hs hxy) (zb r hr)
theorem putA_span {n : Nat} {F : List (List Int)} {a : List Int} (h : Inv n F) (ha : a.length = n) (h0 : pk n a ≠ 0) : (∀ r ∈ putA n F a, Sp n (a :: F) r) ∧ ∀ r ∈ a :: F, Sp n (putA n F a) r := by
  have hL : ∀ r ∈ a :: F, r.length = n := fun r hr => by
    rcases List.mem_cons.1 hr with rfl | hr
    · exact ha
    · exact h.len r hr
  have lb : (upV n a (pk n a)).length = n := upV_length ha
  have ub : 0 < co n (upV n a (pk n a)) (pk n a) := upV_pos (pk_at h0)
  have hM : ∀ r ∈ putA n F a, r.length = n := fun r hr => by
    rcases insF_mem.1 hr with rfl | hr
    · exact lb
    · obtain ⟨s, hs, rfl⟩ := List.mem_map.1 hr
      exact wo_length (h.len s hs) lb
  have sa : Sp n (a :: F) (upV n a (pk n a)) := (Sp.upV hL ha).2 (.mem (by simp))
  have sb : Sp n (putA n F a) (upV n a (pk n a)) := .mem (insF_mem.2 (.inl rfl))
  refine ⟨fun r hr => ?_, fun r hr => ?_⟩
  · rcases insF_mem.1 hr with rfl | hr
    · exact sa
    · obtain ⟨s, hs, rfl⟩ := List.mem_map.1 hr
      exact Sp.wo hL (.mem (by simp [hs])) sa
  · rcases List.mem_cons.1 hr with rfl | hr
    · exact (Sp.upV hM ha).1 sb
    · exact Sp.of_wo hM (h.len r hr) (by omega) (.mem (insF_mem.2 (.inr (List.mem_map.2 ⟨r, hr, rfl⟩)))) sb

theorem cons_len {n : Nat} {x : List Int} {F : List (List Int)} (hx : x.length = n) (h : ∀ r ∈ F, r.length = n) : ∀ r ∈ x :: F, r.length = n := fun r hr => by
  rcases List.mem_cons.1 hr with rfl | hr
  · exact hx
  · exact h r hr
theorem rest_span {n : Nat} {F : List (List Int)} {x : List Int} (h : Inv n F) (hx : x.length = n) : Sp n (x :: F) (restF n F x) ∧ Sp n (restF n F x :: F) x := by
  refine ⟨Sp.restF (cons_len hx h.len) (fun r hr => .mem (by simp [hr])) (.mem (by simp)), ?_⟩
  exact Sp.of_restF (cons_len (restF_length h.len hx) h.len) h.piv (fun r hr => .mem (by simp [hr])) hx (.mem (by simp))
theorem putF_inv {n : Nat} {F : List (List Int)} {x : List Int} (h : Inv n F) (hx : x.length = n) : Inv n (putF n F x) := by
  unfold putF
  split
  · exact h
  · rename_i h0
    exact putA_inv h (restF_length h.len hx) restF_low h0 (restF_pivots h hx)
theorem rest_zero {n : Nat} {F : List (List Int)} {x : List Int} (h : Inv n F) (hx : x.length = n) : pk n (restF n F x) = 0 ↔ Sp n F x := by
  constructor
  · intro h0
    have e : restF n F x = List.replicate n 0 := all_zero (restF_length h.len hx) fun k h1 h2 => pk_zero h0 h1 h2
    have h1 := (rest_span h hx).2
    refine h1.sub fun r hr => ?_
    rcases List.mem_cons.1 hr with rfl | hr
    · rw [e]; exact .zero
    · exact .mem hr
  · intro hs
    have h1 : Sp n F (restF n F x) := (rest_span h hx).1.sub fun r hr => by
      rcases List.mem_cons.1 hr with rfl | hr
      · exact hs
      · exact .mem hr
    exact pk_none fun k _ _ => h.zero h1 (restF_pivots h hx) k
theorem putF_span {n : Nat} {F : List (List Int)} {x : List Int} (h : Inv n F) (hx : x.length = n) : (∀ r ∈ putF n F x, Sp n (x :: F) r) ∧ ∀ r ∈ x :: F, Sp n (putF n F x) r := by
  unfold putF
  split
  · rename_i h0
    refine ⟨fun r hr => .mem (by simp [hr]), fun r hr => ?_⟩
    rcases List.mem_cons.1 hr with rfl | hr
    · exact (rest_zero h hx).1 h0
    · exact .mem hr
  · rename_i h0
    obtain ⟨p, q⟩ := putA_span h (restF_length h.len hx) h0
    obtain ⟨u, v⟩ := rest_span h hx
    have hs1 : ∀ r ∈ restF n F x :: F, Sp n (x :: F) r := fun r hr => by
      rcases List.mem_cons.1 hr with rfl | hr
      · exact u
      · exact .mem (by simp [hr])
    refine ⟨fun r hr => (p r hr).sub hs1, fun r hr => ?_⟩
    rcases List.mem_cons.1 hr with rfl | hr
    · exact v.sub q
    · exact q r (by simp [hr])
theorem putF_length {n : Nat} {F : List (List Int)} {x : List Int} : (putF n F x).length = if pk n (restF n F x) = 0 then F.length else F.length + 1 := by
  unfold putF
  split
  · rfl
  · unfold putA
    rw [insF_length, List.length_map]

theorem fold_inv {n : Nat} : ∀ (l F : List (List Int)), Inv n F → (∀ x ∈ l, x.length = n) → Inv n (l.foldl (putF n) F) := by
  intro l
  induction l with
  | nil => intro F h _; exact h
  | cons x t ih => intro F h hl; exact ih _ (putF_inv h (hl x (by simp))) fun y hy => hl y (by simp [hy])
theorem fold_span {n : Nat} : ∀ (l F : List (List Int)), Inv n F → (∀ x ∈ l, x.length = n) → (∀ r ∈ l.foldl (putF n) F, Sp n (l ++ F) r) ∧ ∀ r ∈ l ++ F, Sp n (l.foldl (putF n) F) r := by
  intro l
  induction l with
  | nil => intro F h _; exact ⟨fun r hr => .mem hr, fun r hr => .mem hr⟩
  | cons x t ih =>
    intro F h hl
    have hx := hl x (by simp)
    obtain ⟨p, q⟩ := ih (putF n F x) (putF_inv h hx) fun y hy => hl y (by simp [hy])
    obtain ⟨u, v⟩ := putF_span h hx
    refine ⟨fun r hr => (p r hr).sub fun s hs => ?_, fun r hr => ?_⟩
    · rcases List.mem_append.1 hs with hs | hs
      · exact .mem (by simp [hs])
      · refine (u s hs).sub fun y hy => ?_
        rcases List.mem_cons.1 hy with rfl | hy
        · exact .mem (by simp)
        · exact .mem (by simp [hy])
    · have q2 : ∀ s ∈ putF n F x, Sp n (t.foldl (putF n) (putF n F x)) s := fun s hs => q s (by simp [hs])
      rw [List.cons_append] at hr
      rcases List.mem_cons.1 hr with rfl | hr
      · exact (v r (by simp)).sub q2
      · rcases List.mem_append.1 hr with hr | hr
        · exact q r (by simp [hr])
        · exact (v r (by simp [hr])).sub q2
theorem fold_length {n : Nat} : ∀ (l F : List (List Int)), (l.foldl (putF n) F).length ≤ l.length + F.length := by
  intro l
  induction l with
  | nil => intro F; simp
  | cons x t ih =>
    intro F
    have h := ih (putF n F x)
    have h2 := putF_length (n := n) (F := F) (x := x)
    rw [List.foldl_cons, List.length_cons]
    split at h2 <;> omega
theorem formF_inv {n : Nat} {l : List (List Int)} (hl : ∀ x ∈ l, x.length = n) : Inv n (formF n l) := fold_inv l [] (Inv.nil n) hl
theorem formF_span {n : Nat} {l : List (List Int)} (hl : ∀ x ∈ l, x.length = n) : (∀ r ∈ formF n l, Sp n l r) ∧ ∀ r ∈ l, Sp n (formF n l) r := by
  have h := fold_span l [] (Inv.nil n) hl
  rw [List.append_nil] at h
  exact h
theorem formF_length {n : Nat} (l : List (List Int)) : (formF n l).length ≤ l.length := by
  exact fold_length (n := n) l []
/-- Lists that make the same rows have the same echelon form. -/
theorem formF_same {n : Nat} {l m : List (List Int)} (hl : ∀ x ∈ l, x.length = n) (hm : ∀ x ∈ m, x.length = n) (h1 : ∀ x ∈ l, Sp n m x) (h2 : ∀ x ∈ m, Sp n l x) : formF n l = formF n m :=
  (formF_inv hl).same (formF_inv hm) (fun r hr => (((formF_span hl).1 r hr).sub h1).sub (formF_span hm).2) fun r hr => (((formF_span hm).1 r hr).sub h2).sub (formF_span hl).2
/-- The echelon form of an echelon form is it. -/
theorem formF_form {n : Nat} {F : List (List Int)} (h : Inv n F) : formF n F = F :=
  (formF_inv h.len).same h (fun r hr => (formF_span h.len).1 r hr) fun r hr => (formF_span h.len).2 r hr
theorem rest_rest {n : Nat} {F : List (List Int)} {x : List Int} (h : Inv n F) (hx : x.length = n) : restF n F (restF n F x) = restF n F x := by
  have h1 := restF_pivots h hx
  unfold restF at h1 ⊢
  rw [rs_low _ _ (lowV_lowV x)]
  exact rs_same _ _ h1
/-- A row and its rest make, with the list, the same. -/
theorem form_rest {n : Nat} {l : List (List Int)} {x : List Int} (hl : ∀ r ∈ l, r.length = n) (hx : x.length = n) : formF n (x :: l) = formF n (restF n (formF n l) x :: l) := by
  have hi := formF_inv hl
  obtain ⟨u, v⟩ := rest_span hi hx
  obtain ⟨p, q⟩ := formF_span hl
  refine formF_same (cons_len hx hl) (cons_len (restF_length hi.len hx) hl) (fun r hr => ?_) fun r hr => ?_
  · rcases List.mem_cons.1 hr with rfl | hr
    · refine v.sub fun s hs => ?_
      rcases List.mem_cons.1 hs with rfl | hs
      · exact .mem (by simp)
      · exact (p s hs).sub fun y hy => .mem (by simp [hy])
    · exact .mem (by simp [hr])
  · rcases List.mem_cons.1 hr with rfl | hr
    · refine u.sub fun s hs => ?_
      rcases List.mem_cons.1 hs with rfl | hs
      · exact .mem (by simp)
      · exact (p s hs).sub fun y hy => .mem (by simp [hy])
    · exact .mem (by simp [hr])

-- how long the numbers are
/-- Are all numbers of a row of at most K limbs? -/
def SzV (K : Nat) (x : List Int) : Prop := ∀ a ∈ x, (limbs a.natAbs).length ≤ K
theorem szv_mono {K M : Nat} {x : List Int} (h : SzV K x) (hk : K ≤ M) : SzV M x := fun a ha => Nat.le_trans (h a ha) hk
theorem szv_co {K n : Nat} {x : List Int} (h : SzV K x) (k : Nat) : (limbs (co n x k).natAbs).length ≤ K := by
  unfold co
  rw [List.getD_eq_getElem?_getD]
  rcases Nat.lt_or_ge (k % n) x.length with g | g
  · rw [List.getElem?_eq_getElem g]
    exact h _ (List.getElem_mem _)
  · rw [List.getElem?_eq_none g]
    have e : limbs ((none : Option Int).getD 0).natAbs = [] := limbs_eq_nil.2 rfl
    rw [e]; simp
theorem szv_low {K : Nat} {x : List Int} (h : SzV K x) : SzV K (lowV x) := by
  unfold lowV
  split
  · exact h
  · intro a ha
    obtain ⟨b, hb, rfl⟩ := List.mem_map.1 ha
    rw [tq_abs]
    exact Nat.le_trans (len_mono (Nat.div_le_self _ _)) (h b hb)
theorem szv_mix {K M Km Kq : Nat} {x y : List Int} {m q : Int} (h1 : SzV K x) (h2 : SzV M y) (hm : (limbs m.natAbs).length ≤ Km) (hq : (limbs q.natAbs).length ≤ Kq) : SzV (max (Km + K) (Kq + M) + 1) (mixV m x q y) := by
  intro a ha
  unfold mixV at ha
  obtain ⟨j, hj, rfl⟩ := List.getElem_of_mem ha
  rw [List.length_zipWith] at hj
  rw [List.getElem_zipWith]
  have a1 := lz_add (m * (x[j]'(by omega))) (q * (y[j]'(by omega)))
  have a2 := lz_mul m (x[j]'(by omega))
  have a3 := lz_mul q (y[j]'(by omega))
  have a4 := h1 (x[j]'(by omega)) (List.getElem_mem _)
  have a5 := h2 (y[j]'(by omega)) (List.getElem_mem _)
  omega
theorem szv_wo {K M n : Nat} {a r : List Int} {k : Nat} (h1 : SzV K a) (h2 : SzV M r) : SzV (K + M + 1) (wo n a r k) := by
  unfold wo
  split
  · exact szv_mono h1 (by omega)
  · have h3 : (limbs (-co n a k).natAbs).length ≤ K := by rw [Int.natAbs_neg]; exact szv_co h1 k
    exact szv_low (szv_mono (szv_mix h1 h2 (szv_co h2 k) h3) (by omega))
theorem szv_rs {M n : Nat} : ∀ (F : List (List Int)) (a : List Int) (K : Nat), SzV K a → (∀ r ∈ F, SzV M r) → SzV (K + F.length * (M + 1)) (rs n F a) := by
  intro F
  induction F with
  | nil => intro a K h _; exact szv_mono h (by simp)
  | cons r t ih =>
    intro a K h1 h2
    have h3 := ih _ _ (szv_wo (k := pk n r) (n := n) h1 (h2 r (by simp))) fun x hx => h2 x (by simp [hx])
    refine szv_mono h3 ?_
    rw [List.length_cons, Nat.add_mul]
    omega
theorem szv_restF {K M n : Nat} {F : List (List Int)} {x : List Int} (h1 : SzV K x) (h2 : ∀ r ∈ F, SzV M r) : SzV (K + F.length * (M + 1)) (restF n F x) := szv_rs F _ K (szv_low h1) h2
theorem szv_upV {K n : Nat} {a : List Int} {k : Nat} (h : SzV K a) : SzV K (upV n a k) := by
  unfold upV
  split
  · intro b hb
    obtain ⟨c, hc, rfl⟩ := List.mem_map.1 hb
    rw [Int.mul_neg, Int.mul_one, Int.natAbs_neg]
    exact h c hc
  · exact h
/-- How long an echelon form of so many rows is, of rows of at most B limbs. -/
def szF (B : Nat) : Nat → Nat
  | 0 => 0
  | j + 1 => szF B j + B + j * (szF B j + 1) + 1
theorem szF_mono {B : Nat} : ∀ {i j : Nat}, i ≤ j → szF B i ≤ szF B j := by
  intro i j h
  induction h with
  | refl => exact Nat.le_refl _
  | step h ih => refine Nat.le_trans ih ?_; rw [szF]; omega
theorem szv_putA {B n : Nat} {F : List (List Int)} {a : List Int} (h1 : SzV (B + F.length * (szF B F.length + 1)) a) (h2 : ∀ r ∈ F, SzV (szF B F.length) r) : ∀ r ∈ putA n F a, SzV (szF B (F.length + 1)) r := by
  intro r hr
  rcases insF_mem.1 hr with rfl | hr
  · exact szv_mono (szv_upV h1) (by rw [szF]; omega)
  · obtain ⟨s, hs, rfl⟩ := List.mem_map.1 hr
    exact szv_mono (szv_wo (h2 s hs) (szv_upV h1)) (by rw [szF]; omega)
theorem szv_putF {B n : Nat} {F : List (List Int)} {x : List Int} (h1 : SzV B x) (h2 : ∀ r ∈ F, SzV (szF B F.length) r) : ∀ r ∈ putF n F x, SzV (szF B (putF n F x).length) r := by
  intro r hr
  have hl := putF_length (n := n) (F := F) (x := x)
  unfold putF at hr
  split at hr
  · rename_i h0
    rw [hl, if_pos h0]
    exact h2 r hr
  · rename_i h0
    rw [hl, if_neg h0]
    exact szv_putA (szv_restF h1 h2) h2 r hr
theorem szv_fold {B n : Nat} : ∀ (l F : List (List Int)), (∀ x ∈ l, SzV B x) → (∀ r ∈ F, SzV (szF B F.length) r) → ∀ r ∈ l.foldl (putF n) F, SzV (szF B (l.foldl (putF n) F).length) r := by
  intro l
  induction l with
  | nil => intro F _ h; exact h
  | cons x t ih => intro F h1 h2; exact ih _ (fun y hy => h1 y (by simp [hy])) (szv_putF (h1 x (by simp)) h2)
theorem szv_formF {B n : Nat} {l : List (List Int)} (h : ∀ x ∈ l, SzV B x) : ∀ r ∈ formF n l, SzV (szF B (formF n l).length) r   := szv_fold l [] h (by simp)

theorem while_take {p : List Int → Bool} : ∀ (l : List (List Int)) (k : Nat) (hk : k ≤ l.length), (∀ j (hj : j < l.length), j < k → p l[j] = true) → (∀ h : k < l.length, p l[k] = false) → l.takeWhile p = l.take k ∧ l.dropWhile p = l.drop k := by
  intro l
  induction l with
  | nil => intro k hk _ _; simp
  | cons x t ih =>
    intro k hk h1 h2
    cases k with
    | zero =>
      have := h2 (by simp)
      rw [List.getElem_cons_zero] at this
      rw [List.takeWhile_cons_of_neg (by simp [this]), List.dropWhile_cons_of_neg (by simp [this])]
      simp
    | succ k =>
      have h3 := h1 0 (by simp) (by omega)
      rw [List.getElem_cons_zero] at h3
      obtain ⟨a, b⟩ := ih k (by simpa using hk) (fun j hj hjk => by have h9 := h1 (j + 1) (by simpa using hj) (by omega); rwa [List.getElem_cons_succ] at h9) fun h => by have h9 := h2 (by simpa using h); rwa [List.getElem_cons_succ] at h9
      rw [List.takeWhile_cons_of_pos h3, List.dropWhile_cons_of_pos h3, a, b]
      simp
theorem insF_at {n : Nat} {F : List (List Int)} {a : List Int} {key k : Nat} (hk : k ≤ F.length) (h1 : ∀ j (hj : j < F.length), j < k → pk n F[j] < key) (h2 : ∀ h : k < F.length, ¬ pk n F[k] < key) : insF n F a key = F.take k ++ a :: F.drop k := by
  obtain ⟨e1, e2⟩ := while_take (p := fun r => decide (pk n r < key)) F k hk (fun j hj hjk => decide_eq_true (h1 j hj hjk)) fun h => decide_eq_false (h2 h)
  unfold insF
  rw [e1, e2]
/-- Which of two places, by their indices, is ahead. -/
def beforeI (a b : Nat) : Bool := decide (a ≠ b) && decide (a ≠ 0) && (decide (b = 0) || decide (a < b))
theorem before_key {n i k : Nat} (h1 : 1 ≤ i) (h2 : i ≤ n) (h3 : 1 ≤ k) (h4 : k ≤ n) : beforeI (i % n) (k % n) = decide (i < k) := by
  unfold beforeI
  rcases Nat.lt_or_ge i n with a | a
  · rw [Nat.mod_eq_of_lt a]
    rcases Nat.lt_or_ge k n with b | b
    · rw [Nat.mod_eq_of_lt b]
      by_cases h : i < k
      · rw [decide_eq_true h, decide_eq_true (show i ≠ k by omega), decide_eq_true (show i ≠ 0 by omega)]; simp
      · rw [decide_eq_false h, decide_eq_false (show ¬ (k = 0) by omega)]; simp
    · obtain rfl : k = n := by omega
      rw [Nat.mod_self, decide_eq_true (show i < k from a), decide_eq_true (show i ≠ 0 by omega)]; simp
  · obtain rfl : i = n := by omega
    rw [Nat.mod_self, decide_eq_false (show ¬ (i < k) by omega)]; simp
/-- A row's pivot, as an index; below 0: there is none. -/
def pvI (n : Nat) (x : List Int) : Int := if pk n x = 0 then -1 else ((pk n x % n : Nat) : Int)

end Go.Proofs.YtajmijnoikkffaaGreat

namespace Go.Proofs.YtajmijnoikkffaaGreat
open Go.RowKit
set_option linter.unusedVariables false
set_option linter.unusedSimpArgs false

-- sums of few
theorem sum_zero : ∀ (l : List Int), (∀ x ∈ l, x = 0) → l.sum = 0 := by
  intro l
  induction l with
  | nil => intro _; rfl
  | cons x t ih => intro h; rw [List.sum_cons, h x (by simp), ih fun y hy => h y (by simp [hy])]; rfl
theorem sum_one {f : Nat → Int} {i : Nat} : ∀ (n : Nat), i < n → (∀ j, j < n → j ≠ i → f j = 0) → ((List.range n).map f).sum = f i := by
  intro n
  induction n with
  | zero => intro h; omega
  | succ n ih =>
    intro h1 h2
    rw [List.range_succ, List.map_append, List.sum_append]
    by_cases e : i = n
    · subst e
      rw [sum_zero _ fun x hx => ?_]
      · simp
      · obtain ⟨j, hj, rfl⟩ := List.mem_map.1 hx
        have := List.mem_range.1 hj
        exact h2 j (by omega) (by omega)
    · rw [ih (by omega) fun j g1 g2 => h2 j (by omega) g2]
      have := h2 n (by omega) (by omega)
      simp [this]
theorem sum_two {f : Nat → Int} {i k : Nat} (hik : i ≠ k) : ∀ (n : Nat), i < n → k < n → (∀ j, j < n → j ≠ i → j ≠ k → f j = 0) → ((List.range n).map f).sum = f i + f k := by
  intro n
  induction n with
  | zero => intro h; omega
  | succ n ih =>
    intro h1 h2 h3
    rw [List.range_succ, List.map_append, List.sum_append]
    by_cases e : i = n
    · subst e
      rw [sum_one (f := f) (i := k) _ (by omega) fun j g1 g2 => h3 j (by omega) (by omega) g2]
      simp
      omega
    · by_cases e2 : k = n
      · subst e2
        rw [sum_one (f := f) (i := i) _ (by omega) fun j g1 g2 => h3 j (by omega) g2 (by omega)]
        simp
      · rw [ih (by omega) (by omega) fun j g1 g2 g3 => h3 j (by omega) g2 g3]
        have := h3 n (by omega) (by omega) (by omega)
        simp [this]
theorem dot_range {n : Nat} {x y : List Int} (hx : x.length = n) (hy : y.length = n) : dotZ x y = ((List.range n).map fun j => x.getD j 0 * y.getD j 0).sum := by
  unfold dotZ
  congr 1
  refine List.ext_getElem (by simp [hx, hy]) fun j h1 h2 => ?_
  rw [List.length_zipWith] at h1
  rw [List.getElem_zipWith, List.getElem_map, List.getElem_range, List.getD_eq_getElem?_getD, List.getD_eq_getElem?_getD, List.getElem?_eq_getElem (by omega), List.getElem?_eq_getElem (by omega)]
  rfl
theorem key_mod {n i k : Nat} (h1 : 1 ≤ i) (h2 : i ≤ n) (h3 : 1 ≤ k) (h4 : k ≤ n) (h : i % n = k % n) : i = k := by
  rcases Nat.lt_or_ge i n with a | a
  · rcases Nat.lt_or_ge k n with b | b
    · rwa [Nat.mod_eq_of_lt a, Nat.mod_eq_of_lt b] at h
    · obtain rfl : k = n := by omega
      rw [Nat.mod_eq_of_lt a, Nat.mod_self] at h; omega
  · obtain rfl : i = n := by omega
    rcases Nat.lt_or_ge k i with b | b
    · rw [Nat.mod_self, Nat.mod_eq_of_lt b] at h; omega
    · omega
/-- The place of an index. -/
theorem key_of {n j : Nat} (hj : j < n) : ∃ k, 1 ≤ k ∧ k ≤ n ∧ k % n = j := by
  rcases Nat.eq_zero_or_pos j with h | h
  · exact ⟨n, by omega, Nat.le_refl _, by rw [Nat.mod_self, h]⟩
  · exact ⟨j, h, by omega, Nat.mod_eq_of_lt hj⟩
theorem dot_one {n : Nat} {x y : List Int} {k : Nat} (hx : x.length = n) (hy : y.length = n) (h1 : 1 ≤ k) (h2 : k ≤ n) (h : ∀ j, 1 ≤ j → j ≤ n → j ≠ k → co n x j * co n y j = 0) : dotZ x y = co n x k * co n y k := by
  rw [dot_range hx hy]
  refine sum_one (f := fun j => x.getD j 0 * y.getD j 0) n (Nat.mod_lt k (by omega)) fun j hj hne => ?_
  obtain ⟨q, q1, q2, q3⟩ := key_of hj
  subst q3
  exact h q q1 q2 fun e => hne (by rw [e])
theorem dot_two {n : Nat} {x y : List Int} {i k : Nat} (hx : x.length = n) (hy : y.length = n) (g1 : 1 ≤ i) (g2 : i ≤ n) (h1 : 1 ≤ k) (h2 : k ≤ n) (hik : i ≠ k) (h : ∀ j, 1 ≤ j → j ≤ n → j ≠ i → j ≠ k → co n x j * co n y j = 0) : dotZ x y = co n x i * co n y i + co n x k * co n y k := by
  rw [dot_range hx hy]
  refine sum_two (f := fun j => x.getD j 0 * y.getD j 0) (fun e => hik (key_mod g1 g2 h1 h2 e)) n (Nat.mod_lt i (by omega)) (Nat.mod_lt k (by omega)) fun j hj n1 n2 => ?_
  obtain ⟨q, q1, q2, q3⟩ := key_of hj
  subst q3
  exact h q q1 q2 (fun e => n1 (by rw [e])) fun e => n2 (by rw [e])
theorem dot_mix {n : Nat} {x y z : List Int} {a b : Int} (hx : x.length = n) (hy : y.length = n) (hz : z.length = n) : dotZ (mixV a x b y) z = a * dotZ x z + b * dotZ y z := by
  rw [dot_range (mixV_length hx hy) hz, dot_range hx hz, dot_range hy hz]
  have e : (fun j => (mixV a x b y).getD j 0 * z.getD j 0) = fun j => a * (x.getD j 0 * z.getD j 0) + b * (y.getD j 0 * z.getD j 0) := by
    funext j
    have : (mixV a x b y).getD j 0 = a * x.getD j 0 + b * y.getD j 0 := by
      unfold mixV
      rw [List.getD_eq_getElem?_getD, List.getD_eq_getElem?_getD, List.getD_eq_getElem?_getD, List.getElem?_zipWith]
      rcases Nat.lt_or_ge j n with h | h
      · rw [List.getElem?_eq_getElem (by omega), List.getElem?_eq_getElem (by omega)]
        rfl
      · rw [List.getElem?_eq_none (by omega), List.getElem?_eq_none (by omega)]
        simp
    rw [this]
    grind
  rw [e]
  generalize List.range n = l
  induction l with
  | nil => simp
  | cons j t ih => simp only [List.map_cons, List.sum_cons]; rw [ih]; grind
theorem dot_comm (x y : List Int) : dotZ x y = dotZ y x := by
  unfold dotZ
  rw [List.zipWith_comm]
  congr 2
  funext a b
  exact Int.mul_comm _ _
theorem dot_scale {n : Nat} {x z : List Int} {t : Int} (hx : x.length = n) (hz : z.length = n) : dotZ (x.map fun a => a * t) z = t * dotZ x z := by
  have e : (x.map fun a => a * t) = mixV t x 0 x := co_ext (n := n) (by simpa using hx) (mixV_length hx hx) fun k _ _ => by
    rw [co_scale, co_mix hx hx]; grind
  rw [e, dot_mix hx hx hz]
  omega
theorem dot_zero {n : Nat} {z : List Int} (hz : z.length = n) : dotZ (List.replicate n 0) z = 0 := by
  rw [dot_range (by simp) hz]
  refine sum_zero _ fun x hx => ?_
  obtain ⟨j, _, rfl⟩ := List.mem_map.1 hx
  rw [List.getD_eq_getElem?_getD, List.getElem?_replicate]
  split <;> simp
/-- What is across to rows is across to what they make. -/
theorem Sp.dot {n : Nat} {L : List (List Int)} (hL : ∀ r ∈ L, r.length = n) {z : List Int} (hz : z.length = n) (h : ∀ r ∈ L, dotZ r z = 0) {x : List Int} (hx : Sp n L x) : dotZ x z = 0 := by
  induction hx with
  | mem h1 => exact h _ h1
  | zero => exact dot_zero hz
  | mix a b h1 h2 h3 h4 => rw [dot_mix (h1.len hL) (h2.len hL) hz, h3, h4]; simp
  | div c h1 h2 h3 h4 =>
    rw [dot_scale h2 hz] at h4
    exact (Int.mul_eq_zero.1 h4).resolve_left h1
theorem Sp.at {n : Nat} {L : List (List Int)} (hL : ∀ r ∈ L, r.length = n) {k : Nat} (h : ∀ r ∈ L, co n r k = 0) {x : List Int} (hx : Sp n L x) : co n x k = 0 := by
  induction hx with
  | mem h1 => exact h _ h1
  | zero => exact co_zero
  | mix a b h1 h2 h3 h4 => rw [co_mix (h1.len hL) (h2.len hL), h3, h4]; simp
  | div c h1 h2 h3 h4 =>
    rw [co_scale] at h4
    exact (Int.mul_eq_zero.1 h4).resolve_right h1

/-- The product of all pivots. -/
def allF (n : Nat) (F : List (List Int)) : Int := F.foldl (fun a r => a * co n r (pk n r)) 1
def allG (n : Nat) (F : List (List Int)) (a : Int) : Int := F.foldl (fun a r => a * co n r (pk n r)) a
theorem allG_eq {n : Nat} : ∀ (F : List (List Int)) (a : Int), allG n F a = a * allF n F := by
  intro F
  induction F with
  | nil => intro a; unfold allG allF; simp
  | cons r t ih =>
    intro a
    have h1 := ih (a * co n r (pk n r))
    have h2 := ih (1 * co n r (pk n r))
    show allG n t (a * co n r (pk n r)) = a * allG n t (1 * co n r (pk n r))
    rw [h1, h2]
    grind
theorem allF_cons {n : Nat} {r : List Int} {F : List (List Int)} : allF n (r :: F) = co n r (pk n r) * allF n F := by
  have := allG_eq (n := n) F (1 * co n r (pk n r))
  rw [Int.one_mul] at this
  show allG n F (1 * co n r (pk n r)) = _
  rw [Int.one_mul]
  exact this
theorem allF_ne {n : Nat} : ∀ (F : List (List Int)), (∀ r ∈ F, pk n r ≠ 0) → allF n F ≠ 0 := by
  intro F
  induction F with
  | nil => intro _; show (1 : Int) ≠ 0; decide
  | cons r t ih =>
    intro h e
    rw [allF_cons] at e
    rcases Int.mul_eq_zero.1 e with g | g
    · exact pk_at (h r (by simp)) g
    · exact ih (fun x hx => h x (by simp [hx])) g
theorem allF_dvd {n : Nat} : ∀ (F : List (List Int)), ∀ r ∈ F, co n r (pk n r) ∣ allF n F := by
  intro F
  induction F with
  | nil => intro r hr; cases hr
  | cons s t ih =>
    intro r hr
    rw [allF_cons]
    rcases List.mem_cons.1 hr with rfl | hr
    · exact Int.dvd_mul_right _ _
    · exact Int.dvd_trans (ih r hr) (Int.dvd_mul_left _ _)
/-- What a pivot's place has in the row across. -/
def acN (n : Nat) (all : Int) (r : List Int) (k : Nat) : Int := -(tq (all * co n r k) (co n r (pk n r)))
/-- The row across to an echelon form that has, beside its pivots, just one place that is not 0. -/
def acG (n : Nat) (all : Int) (k : Nat) (F : List (List Int)) (x : List Int) : List Int := F.foldl (fun x r => x.set (pk n r % n) (acN n all r k)) x
def acF (n : Nat) (F : List (List Int)) (k : Nat) : List Int := acG n (allF n F) k F ((List.replicate n 0).set (k % n) (allF n F))
theorem co_set {n : Nat} {x : List Int} {p j : Nat} {v : Int} (hx : x.length = n) (p1 : 1 ≤ p) (p2 : p ≤ n) (j1 : 1 ≤ j) (j2 : j ≤ n) : co n (x.set (p % n) v) j = if j = p then v else co n x j := by
  unfold co
  rw [List.getD_eq_getElem?_getD, List.getElem?_set]
  have hm : p % n < n := Nat.mod_lt _ (by omega)
  by_cases h : j = p
  · subst h
    rw [if_pos rfl, if_pos rfl, if_pos (by omega)]
    rfl
  · rw [if_neg fun e => h (key_mod j1 j2 p1 p2 e.symm), if_neg h, List.getD_eq_getElem?_getD]
theorem acG_length {n : Nat} {all : Int} {k : Nat} : ∀ (F : List (List Int)) (x : List Int), x.length = n → (acG n all k F x).length = n := by
  intro F
  induction F with
  | nil => intro x h; exact h
  | cons r t ih => intro x h; exact ih _ (by rw [List.length_set, h])
theorem acG_off {n : Nat} {all : Int} {k j : Nat} (j1 : 1 ≤ j) (j2 : j ≤ n) : ∀ (F : List (List Int)) (x : List Int), x.length = n → (∀ r ∈ F, pk n r ≠ 0 ∧ pk n r ≠ j) → co n (acG n all k F x) j = co n x j := by
  intro F
  induction F with
  | nil => intro x h _; rfl
  | cons r t ih =>
    intro x h h2
    have h3 := h2 r (by simp)
    show co n (acG n all k t (x.set (pk n r % n) (acN n all r k))) j = _
    rw [ih _ (by rw [List.length_set, h]) fun y hy => h2 y (by simp [hy]), co_set h (by omega) pk_le j1 j2, if_neg (by omega)]
theorem acG_at {n : Nat} {all : Int} {k : Nat} : ∀ (F : List (List Int)) (x : List Int), x.length = n → F.Pairwise (fun a b => pk n a < pk n b) → (∀ r ∈ F, pk n r ≠ 0) → ∀ r ∈ F, co n (acG n all k F x) (pk n r) = acN n all r k := by
  intro F
  induction F with
  | nil => intro x _ _ _ r hr; cases hr
  | cons s t ih =>
    intro x h h1 h2 r hr
    rw [List.pairwise_cons] at h1
    have h3 := h2 s (by simp)
    have hl : (x.set (pk n s % n) (acN n all s k)).length = n := by rw [List.length_set, h]
    show co n (acG n all k t (x.set (pk n s % n) (acN n all s k))) (pk n r) = _
    rcases List.mem_cons.1 hr with rfl | hr
    · rw [acG_off (by omega) pk_le t _ hl fun y hy => ⟨h2 y (by simp [hy]), by have := h1.1 y hy; omega⟩, co_set h (by omega) pk_le (by omega) pk_le, if_pos rfl]
    · exact ih _ hl h1.2 (fun y hy => h2 y (by simp [hy])) r hr
theorem acF_length {n k : Nat} {F : List (List Int)} : (acF n F k).length = n := acG_length _ _ (by simp)
theorem acF_free {n k j : Nat} {F : List (List Int)} (h : Inv n F) (k1 : 1 ≤ k) (k2 : k ≤ n) (j1 : 1 ≤ j) (j2 : j ≤ n) (hj : ∀ r ∈ F, pk n r ≠ j) : co n (acF n F k) j = if j = k then allF n F else 0 := by
  unfold acF
  rw [acG_off j1 j2 F _ (by simp) fun r hr => ⟨h.piv r hr, hj r hr⟩, co_set (by simp) k1 k2 j1 j2, co_zero]
theorem acF_pivot {n k : Nat} {F : List (List Int)} (h : Inv n F) : ∀ r ∈ F, co n (acF n F k) (pk n r) * co n r (pk n r) = -(allF n F * co n r k) := by
  intro r hr
  unfold acF
  rw [acG_at F _ (by simp) h.sorted h.piv r hr]
  unfold acN
  have hp := h.pos r hr
  obtain ⟨d, hd⟩ : ∃ d : Nat, co n r (pk n r) = (d : Int) := ⟨(co n r (pk n r)).toNat, by omega⟩
  have hdv : (allF n F * co n r k).natAbs % d = 0 := by
    have h1 : co n r (pk n r) ∣ allF n F * co n r k := Int.dvd_trans (allF_dvd F r hr) (Int.dvd_mul_right _ _)
    rw [hd] at h1
    have h2 := Int.natAbs_dvd_natAbs.2 h1
    rw [Int.natAbs_natCast] at h2
    exact Nat.mod_eq_zero_of_dvd h2
  rw [hd] at hp ⊢
  have := tq_back (x := allF n F * co n r k) (g := d) (by omega) hdv
  rw [Int.neg_mul, this]
/-- It is across. -/
theorem acF_dot {n k : Nat} {F : List (List Int)} (h : Inv n F) (k1 : 1 ≤ k) (k2 : k ≤ n) (hk : ∀ r ∈ F, pk n r ≠ k) : ∀ r ∈ F, dotZ (acF n F k) r = 0 := by
  intro r hr
  have hp := h.piv r hr
  rw [dot_two (i := k) (k := pk n r) acF_length (h.len r hr) k1 k2 (by omega) pk_le (fun e => hk r hr e.symm) fun j j1 j2 n1 n2 => ?_]
  · rw [acF_pivot h r hr, acF_free h k1 k2 k1 k2 hk, if_pos rfl]
    omega
  · rcases Classical.em (∃ s ∈ F, pk n s = j) with ⟨s, hs, rfl⟩ | g
    · rw [h.off s hs r hr n2, Int.mul_zero]
    · rw [acF_free h k1 k2 j1 j2 fun s hs e => g ⟨s, hs, e⟩, if_neg n1, Int.zero_mul]

/-- Is a place a pivot's? -/
def isP (n : Nat) (F : List (List Int)) (k : Nat) : Bool := F.any fun r => decide (pk n r = k)
theorem isP_iff {n : Nat} {F : List (List Int)} {k : Nat} : isP n F k = true ↔ ∃ r ∈ F, pk n r = k := by
  unfold isP
  rw [List.any_eq_true]
  constructor
  · rintro ⟨r, hr, h⟩; exact ⟨r, hr, of_decide_eq_true h⟩
  · rintro ⟨r, hr, h⟩; exact ⟨r, hr, decide_eq_true h⟩
/-- The places that are no pivots, in the order. -/
def freeK (n : Nat) (F : List (List Int)) : List Nat := (List.range' 1 n).filter fun k => !isP n F k
theorem mem_free {n : Nat} {F : List (List Int)} {k : Nat} : k ∈ freeK n F ↔ (1 ≤ k ∧ k ≤ n) ∧ ∀ r ∈ F, pk n r ≠ k := by
  unfold freeK
  rw [List.mem_filter, List.mem_range'_1]
  constructor
  · rintro ⟨h1, h2⟩
    refine ⟨by omega, fun r hr e => ?_⟩
    have := isP_iff.2 ⟨r, hr, e⟩
    rw [this] at h2
    cases h2
  · rintro ⟨h1, h2⟩
    refine ⟨by omega, ?_⟩
    cases h : isP n F k
    · rfl
    · obtain ⟨r, hr, e⟩ := isP_iff.1 h
      exact absurd e (h2 r hr)
theorem two_filters (p : Nat → Bool) : ∀ (l : List Nat), (l.filter p).length + (l.filter fun k => !p k).length = l.length := by
  intro l
  induction l with
  | nil => rfl
  | cons x t ih =>
    cases h : p x <;> simp [h] <;> omega
theorem free_length {n : Nat} {F : List (List Int)} (h : Inv n F) : (freeK n F).length + F.length = n := by
  have h1 : ((List.range' 1 n).filter fun k => isP n F k).length = F.length := by
    have hs : ((List.range' 1 n).filter fun k => isP n F k).Pairwise (· < ·) := List.Pairwise.filter _ List.pairwise_lt_range'
    have a1 := (sorted_sub _ _ hs h.pks fun x hx => ?_).length_le
    have a2 := (sorted_sub _ _ h.pks hs fun x hx => ?_).length_le
    · rw [List.length_map] at a1 a2; omega
    · obtain ⟨r, hr, rfl⟩ := List.mem_map.1 hx
      rw [List.mem_filter, List.mem_range'_1]
      have := h.piv r hr
      have := pk_le (n := n) (x := r)
      exact ⟨by omega, isP_iff.2 ⟨r, hr, rfl⟩⟩
    · obtain ⟨_, h3⟩ := List.mem_filter.1 hx
      obtain ⟨r, hr, e⟩ := isP_iff.1 h3
      exact List.mem_map.2 ⟨r, hr, e⟩
  have h2 := two_filters (fun k => isP n F k) (List.range' 1 n)
  rw [List.length_range', h1] at h2
  unfold freeK
  omega
/-- All rows across. -/
def acL (n : Nat) (F : List (List Int)) : List (List Int) := (freeK n F).map (acF n F)
def kerF (n : Nat) (F : List (List Int)) : List (List Int) := formF n (acL n F)
theorem acL_len {n : Nat} {F : List (List Int)} : ∀ x ∈ acL n F, x.length = n := fun x hx => by
  obtain ⟨k, _, rfl⟩ := List.mem_map.1 hx
  exact acF_length
theorem fold_indep {n : Nat} : ∀ (l F : List (List Int)), Inv n F → (∀ x ∈ l, x.length = n) → (∀ (l1 : List (List Int)) (x : List Int) (l2 : List (List Int)), l = l1 ++ x :: l2 → ¬ Sp n (l1 ++ F) x) → (l.foldl (putF n) F).length = l.length + F.length := by
  intro l
  induction l with
  | nil => intro F _ _ _; simp
  | cons x t ih =>
    intro F h hl hi
    have hx := hl x (by simp)
    have h0 : pk n (restF n F x) ≠ 0 := fun e => hi [] x t rfl (by simpa using (rest_zero h hx).1 e)
    have e := putF_length (n := n) (F := F) (x := x)
    rw [if_neg h0] at e
    obtain ⟨p, q⟩ := putF_span h hx
    rw [List.foldl_cons, ih (putF n F x) (putF_inv h hx) (fun y hy => hl y (by simp [hy])) fun l1 y l2 e2 hs => hi (x :: l1) y l2 (by rw [e2]; rfl) (hs.sub fun r hr => ?_), e, List.length_cons]
    · omega
    · rcases List.mem_append.1 hr with hr | hr
      · exact .mem (by simp [hr])
      · refine (p r hr).sub fun s hs => ?_
        rcases List.mem_cons.1 hs with rfl | hs
        · exact .mem (by simp)
        · exact .mem (by simp [hs])
theorem ker_inv {n : Nat} {F : List (List Int)} : Inv n (kerF n F) := formF_inv acL_len
theorem ker_length {n : Nat} {F : List (List Int)} (h : Inv n F) : (kerF n F).length + F.length = n := by
  have h1 : (kerF n F).length = (acL n F).length + ([] : List (List Int)).length := by
    refine fold_indep (acL n F) [] (Inv.nil n) acL_len fun l1 x l2 e hs => ?_
    rw [List.append_nil] at hs
    unfold acL at e
    obtain ⟨k1, k2, e1, e2, e3⟩ := List.map_eq_append_iff.1 e
    obtain ⟨k, k3, e4, e5, e6⟩ := List.map_eq_cons_iff.1 e3
    have hmem : ∀ j ∈ freeK n F, (1 ≤ j ∧ j ≤ n) ∧ ∀ r ∈ F, pk n r ≠ j := fun j hj => mem_free.1 hj
    have hk := hmem k (by rw [e1, e4]; simp)
    have hsort : (freeK n F).Pairwise (· < ·) := List.Pairwise.filter _ List.pairwise_lt_range'
    have hz : co n x k = 0 := by
      refine Sp.at (L := l1) (fun r hr => ?_) (fun r hr => ?_) hs
      · rw [← e2] at hr
        obtain ⟨_, _, rfl⟩ := List.mem_map.1 hr
        exact acF_length
      · rw [← e2] at hr
        obtain ⟨j, hj, rfl⟩ := List.mem_map.1 hr
        have hj2 := hmem j (by rw [e1]; simp [hj])
        rw [acF_free h hj2.1.1 hj2.1.2 hk.1.1 hk.1.2 hk.2, if_neg]
        rw [e1, e4, List.pairwise_append] at hsort
        have := hsort.2.2 j hj k (by simp)
        omega
    rw [← e5, acF_free h hk.1.1 hk.1.2 hk.1.1 hk.1.2 hk.2, if_pos rfl] at hz
    exact allF_ne F h.piv hz
  have h2 := free_length h
  rw [h1]
  unfold acL
  simp
  omega
/-- The kernel's rows are across. -/
theorem ker_dot {n : Nat} {F : List (List Int)} (h : Inv n F) {x y : List Int} (hx : Sp n (kerF n F) x) (hy : Sp n F y) : dotZ x y = 0 := by
  have hl := ker_inv (n := n) (F := F)
  have h1 : ∀ a ∈ acL n F, dotZ a y = 0 := fun a ha => by
    rw [dot_comm]
    refine Sp.dot h.len (acL_len a ha) (fun r hr => ?_) hy
    rw [dot_comm]
    obtain ⟨k, hk, rfl⟩ := List.mem_map.1 ha
    have hk := mem_free.1 hk
    exact acF_dot h hk.1.1 hk.1.2 hk.2 r hr
  exact Sp.dot acL_len (hy.len h.len) h1 (hx.sub (formF_span acL_len).1)
theorem span_free {n : Nat} {F : List (List Int)} (h : Inv n F) : ∀ (ks : List Nat), (∀ k ∈ ks, k ∈ freeK n F) → ∀ (v : List Int), v.length = n → (∀ r ∈ F, dotZ v r = 0) → (∀ k ∈ freeK n F, k ∉ ks → co n v k = 0) → Sp n (acL n F) v := by
  intro ks
  induction ks with
  | nil =>
    intro _ v hv hd hz
    have e : v = List.replicate n 0 := by
      refine all_zero hv fun j j1 j2 => ?_
      rcases Classical.em (∃ s ∈ F, pk n s = j) with ⟨s, hs, rfl⟩ | g
      · have h1 := hd s hs
        rw [dot_one hv (h.len s hs) j1 j2 fun i i1 i2 hne => ?_] at h1
        · exact (Int.mul_eq_zero.1 h1).resolve_right (pk_at (h.piv s hs))
        · rcases Classical.em (∃ t ∈ F, pk n t = i) with ⟨t, ht, rfl⟩ | g
          · rw [h.off t ht s hs hne, Int.mul_zero]
          · rw [hz i (mem_free.2 ⟨⟨i1, i2⟩, fun t ht e => g ⟨t, ht, e⟩⟩) (by simp), Int.zero_mul]
      · exact hz j (mem_free.2 ⟨⟨j1, j2⟩, fun t ht e => g ⟨t, ht, e⟩⟩) (by simp)
    rw [e]
    exact .zero
  | cons k t ih =>
    intro hks v hv hd hz
    have hk := mem_free.1 (hks k (by simp))
    have hla : (acF n F k).length = n := acF_length
    have h1 : Sp n (acL n F) (mixV (allF n F) v (-co n v k) (acF n F k)) := by
      refine ih (fun j hj => hks j (by simp [hj])) _ (mixV_length hv hla) (fun r hr => ?_) fun j hj hjt => ?_
      · rw [dot_mix hv hla (h.len r hr), hd r hr, acF_dot h hk.1.1 hk.1.2 hk.2 r hr]
        simp
      · have hj2 := mem_free.1 hj
        rw [co_mix hv hla, acF_free h hk.1.1 hk.1.2 hj2.1.1 hj2.1.2 hj2.2]
        by_cases e : j = k
        · subst e
          rw [if_pos rfl]
          grind
        · rw [if_neg e, hz j hj (by simp [e, hjt])]
          simp
    have hm : Sp n (acL n F) (acF n F k) := .mem (List.mem_map.2 ⟨k, hks k (by simp), rfl⟩)
    refine .div (allF n F) (allF_ne F h.piv) hv ?_
    have e : (v.map fun a => a * allF n F) = mixV 1 (mixV (allF n F) v (-co n v k) (acF n F k)) (co n v k) (acF n F k) := co_ext (n := n) (by simpa using hv) (mixV_length (mixV_length hv hla) hla) fun j _ _ => by
      rw [co_scale, co_mix (mixV_length hv hla) hla, co_mix hv hla]; grind
    rw [e]
    exact .mix _ _ h1 hm
/-- What is across to an echelon form, its kernel makes. -/
theorem ker_all {n : Nat} {F : List (List Int)} (h : Inv n F) {v : List Int} (hv : v.length = n) (hd : ∀ r ∈ F, dotZ v r = 0) : Sp n (kerF n F) v :=
  (span_free h (freeK n F) (fun k hk => hk) v hv hd fun k hk hn => absurd hk hn).sub (formF_span acL_len).2
/-- The kernel's kernel is the echelon form. -/
theorem ker_ker {n : Nat} {F : List (List Int)} (h : Inv n F) : kerF n (kerF n F) = F := by
  have hk := ker_inv (n := n) (F := F)
  have h1 := ker_length h
  have h2 := ker_length hk
  refine (h.eq (ker_inv) (fun r hr => ker_all hk (h.len r hr) fun s hs => ?_) (by omega)).symm
  rw [dot_comm]
  exact ker_dot h (.mem hs) (.mem hr)

end Go.Proofs.YtajmijnoikkffaaGreat

namespace Go.Proofs.YtajmijnoikkffaaGreat
set_option linter.unusedVariables false
set_option linter.unusedSimpArgs false

theorem szv_nought (n : Nat) : SzV 0 (List.replicate n 0) := by
  intro a ha
  rw [List.eq_of_mem_replicate ha]
  have e : limbs (0 : Int).natAbs = [] := limbs_eq_nil.2 rfl
  rw [e]
  exact Nat.le_refl _
theorem szv_set {K : Nat} {x : List Int} {v : Int} (h : SzV K x) (hv : (limbs v.natAbs).length ≤ K) (i : Nat) : SzV K (x.set i v) := by
  intro a ha
  rcases List.mem_or_eq_of_mem_set ha with h1 | h1
  · exact h a h1
  · rw [h1]; exact hv
theorem tq_len (x y : Int) : (limbs (tq x y).natAbs).length ≤ (limbs x.natAbs).length := by
  rw [(tq_enc x y).2]
  exact len_mono (Nat.div_le_self _ _)
theorem szv_allG {M n : Nat} : ∀ (F : List (List Int)) (a : Int) (K : Nat), (limbs a.natAbs).length ≤ K → (∀ r ∈ F, SzV M r) → (limbs (allG n F a).natAbs).length ≤ K + F.length * M := by
  intro F
  induction F with
  | nil => intro a K h _; show (limbs a.natAbs).length ≤ _; omega
  | cons r t ih =>
    intro a K h1 h2
    have h3 := ih (a * co n r (pk n r)) (K + M) (by
      have := lz_mul a (co n r (pk n r))
      have h4 : (limbs (co n r (pk n r)).natAbs).length ≤ M := szv_co (h2 r (by simp)) _
      omega) fun x hx => h2 x (by simp [hx])
    have e : allG n (r :: t) a = allG n t (a * co n r (pk n r)) := rfl
    rw [e, List.length_cons, Nat.add_mul]
    omega
theorem one_len : (limbs (1 : Int).natAbs).length = 1 := by
  have e : limbs (1 : Int).natAbs = [1] := limbs_one (by decide) (by decide)
  rw [e]; rfl
theorem szv_all {M n : Nat} {F : List (List Int)} (h : ∀ r ∈ F, SzV M r) : (limbs (allF n F).natAbs).length ≤ 1 + F.length * M := szv_allG F 1 1 (by rw [one_len]; exact Nat.le_refl _) h
theorem szv_acN {M K n k : Nat} {all : Int} {r : List Int} (h : (limbs all.natAbs).length ≤ K) (hr : SzV M r) : (limbs (acN n all r k).natAbs).length ≤ K + M := by
  unfold acN
  rw [Int.natAbs_neg]
  have h1 := tq_len (all * co n r k) (co n r (pk n r))
  have h2 := lz_mul all (co n r k)
  have h3 : (limbs (co n r k).natAbs).length ≤ M := szv_co hr k
  omega
theorem szv_acG {M K n k : Nat} {all : Int} (h : (limbs all.natAbs).length ≤ K) : ∀ (F : List (List Int)) (x : List Int), (∀ r ∈ F, SzV M r) → SzV (K + M) x → SzV (K + M) (acG n all k F x) := by
  intro F
  induction F with
  | nil => intro x _ hx; exact hx
  | cons r t ih =>
    intro x h2 hx
    exact ih _ (fun y hy => h2 y (by simp [hy])) (szv_set hx (szv_acN h (h2 r (by simp))) _)
theorem szv_acF {M n k : Nat} {F : List (List Int)} (h : ∀ r ∈ F, SzV M r) : SzV (1 + (F.length + 1) * M) (acF n F k) := by
  have h1 := szv_all (n := n) h
  have h2 := szv_acG (n := n) (k := k) h1 F ((List.replicate n 0).set (k % n) (allF n F)) h (szv_set (szv_mono (szv_nought n) (by omega)) (by omega) _)
  refine szv_mono h2 ?_
  rw [Nat.add_mul]
  omega
theorem szv_acL {M n : Nat} {F : List (List Int)} (h : ∀ r ∈ F, SzV M r) : ∀ x ∈ acL n F, SzV (1 + (F.length + 1) * M) x := fun x hx => by
  obtain ⟨k, _, rfl⟩ := List.mem_map.1 hx
  exact szv_acF h

end Go.Proofs.YtajmijnoikkffaaGreat

namespace Go.Proofs.YtajmijnoikkffaaGreat
open Go.RowKit
set_option linter.unusedVariables false
set_option linter.unusedSimpArgs false

/-- The signs and words of numbers. -/
def encR (xs : List Int) : List (Bool × List Nat) := xs.map fun x => (decide (x < 0), limbs x.natAbs)
theorem encR_length (xs : List Int) : (encR xs).length = xs.length := by simp [encR]
theorem encR_nm (xs : List Int) : NmV xs (encR xs) := rfl
theorem encR_sz {xs : List Int} {K : Nat} (h : SzV K xs) : ∀ p ∈ encR xs, p.2.length ≤ K := fun p hp => by
  obtain ⟨x, hx, rfl⟩ := List.mem_map.1 hp
  exact h x hx
/-- A row of n numbers in memory. -/
def RowAt (w : World) (Z : Zone) (A : Option Addr) (c n : Nat) (xs : List Int) : Prop := xs.length = n ∧ VecAt w Z A c (encR xs)
theorem RowAt.below {w w' : World} {Z : Zone} {A : Option Addr} {c n : Nat} {xs : List Int} (h : RowAt w Z A c n xs) (hb : Below w.heap.size w w') : RowAt w' Z A c n xs := ⟨h.1, h.2.below hb⟩
theorem RowAt.mono {w : World} {Z Y : Zone} {A : Option Addr} {c n : Nat} {xs : List Int} (h : RowAt w Z A c n xs) (hz : Z.le Y) : RowAt w Y A c n xs := ⟨h.1, h.2.mono hz⟩
theorem RowAt.keep {w w' : World} {Z : Zone} {A : Option Addr} {c n : Nat} {xs : List Int} (h : RowAt w Z A c n xs) (hs : w.heap.size ≤ w'.heap.size) (hk : ∀ b, Z.blk b → b < w.heap.size → w'.heap[b]? = w.heap[b]?) : RowAt w' Z A c n xs := ⟨h.1, h.2.keep hs hk⟩
theorem RowAt.len {w : World} {Z : Zone} {A : Option Addr} {c n : Nat} {xs : List Int} (h : RowAt w Z A c n xs) : n ≤ 9223372036854775807 := by
  have := h.2.len
  rw [encR_length, h.1] at this
  exact this
theorem RowAt.at {w : World} {Z : Zone} {A : Option Addr} {c n : Nat} {xs : List Int} (h : RowAt w Z A c n xs) {i : Nat} (hi : i < n) :
    ∃ b o B d s l, A = some ⟨b, o, none⟩ ∧ b < w.heap.size ∧ w.cell? ⟨b, o + i * 2, none⟩ = some (.bool s) ∧ w.cell? ⟨b, o + i * 2 + 1, none⟩ = some (.slice B l.length d) ∧ U64s w Z B d l ∧ Nm (xs.getD i 0) s l := by
  obtain ⟨h1, h2⟩ := h
  have hj : i < (encR xs).length := by rw [encR_length]; omega
  obtain ⟨b, o, B, d, e, hb, c0, c1, hu⟩ := h2.at hj
  refine ⟨b, o, B, d, _, _, e, hb, c0, c1, hu, ?_⟩
  have h3 := (encR_nm xs).at i (by omega) hj
  rw [List.getD_eq_getElem?_getD, List.getElem?_eq_getElem (by omega)]
  exact h3
theorem co_get {n k : Nat} (xs : List Int) : co n xs k = xs.getD (k % n) 0 := rfl
theorem nm_zero {x : Int} {s : Bool} {l : List Nat} (h : Nm x s l) : x = 0 ↔ l.length = 0 := by
  rw [h.2]
  constructor
  · intro e
    subst e
    rw [show (0 : Int).natAbs = 0 from rfl, limbs_eq_nil.2 rfl]
    rfl
  · intro e
    have := limbs_eq_nil.1 (List.length_eq_zero_iff.1 e)
    omega

theorem rprime {w : World} {Z : Zone} {A : Option Addr} {c n K : Nat} {xs : List Int} (h : RowAt w Z A c n xs) (hn : n ≤ 64) (hs : SzV K xs) (hK : K ≤ 10000000000) :
    Calls Tryz.prog 33 #[.slice A n c] w fun e w' => ∃ Av cv, e = .returned (.tuple #[.slice Av n cv, .int .i64 0]) ∧ RowAt w' (new w.heap.size) Av cv n (lowV xs) ∧ Below w.heap.size w w' := by
  obtain ⟨h1, h2⟩ := h
  have h3 := vprime_n (rs := encR (lowV xs)) h2 (encR_nm xs) (by rw [encR_length]; omega) (encR_sz hs) hK (encR_nm _)
  rw [encR_length, encR_length, lowV_length, h1] at h3
  refine h3.mono ?_
  rintro e w' ⟨Av, cv, rfl, hv, hb⟩
  exact ⟨Av, cv, rfl, ⟨by rw [lowV_length, h1], hv⟩, hb⟩
theorem rmix {w : World} {Z Y Z3 Z4 : Zone} {A B Am An : Option Addr} {c d cm cn n K : Nat} {sm sn : Bool} {lm ln : List Nat} {xs ys : List Int} {m q : Int} (ha : RowAt w Z A c n xs) (hb : RowAt w Y B d n ys) (um : U64s w Z3 Am cm lm) (un : U64s w Z4 An cn ln) (hm : Nm m sm lm) (hq : Nm q sn ln) (hn : n ≤ 64) (hs1 : SzV K xs) (hs2 : SzV K ys) (hK3 : lm.length ≤ K) (hK4 : ln.length ≤ K) (hK : K ≤ 40000000000) :
    Calls Tryz.prog 51 #[.agg #[.bool sm, .slice Am lm.length cm], .slice A n c, .agg #[.bool sn, .slice An ln.length cn], .slice B n d] w fun e w' => ∃ Av cv, e = .returned (.tuple #[.slice Av n cv, .int .i64 0]) ∧ RowAt w' (new w.heap.size) Av cv n (mixV m xs q ys) ∧ Below w.heap.size w w' := by
  obtain ⟨h1, h2⟩ := ha
  obtain ⟨g1, g2⟩ := hb
  have hl : (mixV m xs q ys).length = n := mixV_length h1 g1
  have h3 := vmix_n (rs := encR (mixV m xs q ys)) h2 g2 um un (encR_nm xs) (encR_nm ys) hm hq (by rw [encR_length, encR_length, h1, g1]) (by rw [encR_length]; omega) (encR_sz hs1) (encR_sz hs2) hK3 hK4 hK (encR_nm _)
  rw [encR_length, encR_length, encR_length, h1, g1, hl] at h3
  refine h3.mono ?_
  rintro e w' ⟨Av, cv, rfl, hv, hb⟩
  exact ⟨Av, cv, rfl, ⟨hl, hv⟩, hb⟩
theorem rscale {w : World} {Z Y : Zone} {A B : Option Addr} {c d n K : Nat} {xs : List Int} {y : Int} {t : Bool} {l : List Nat} (ha : RowAt w Z A c n xs) (hb : U64s w Y B d l) (hy : Nm y t l) (hn : n ≤ 64) (hs : SzV K xs) (hK2 : l.length ≤ K) (hK : K ≤ 80000000000) :
    Calls Tryz.prog 39 #[.slice A n c, .agg #[.bool t, .slice B l.length d]] w fun e w' => ∃ Av cv, e = .returned (.tuple #[.slice Av n cv, .int .i64 0]) ∧ RowAt w' (new w.heap.size) Av cv n (xs.map fun x => x * y) ∧ Below w.heap.size w w' := by
  obtain ⟨h1, h2⟩ := ha
  have hl : (xs.map fun x => x * y).length = n := by simpa using h1
  have h3 := vscale_n (rs := encR (xs.map fun x => x * y)) h2 hb (encR_nm xs) hy (by rw [encR_length]; omega) (encR_sz hs) hK2 hK (encR_nm _)
  rw [encR_length, encR_length, hl, h1] at h3
  refine h3.mono ?_
  rintro e w' ⟨Av, cv, rfl, hv, hb⟩
  exact ⟨Av, cv, rfl, ⟨hl, hv⟩, hb⟩
theorem rtwin {w : World} {Z : Zone} {A : Option Addr} {c n K : Nat} {xs : List Int} (h : RowAt w Z A c n xs) (hn : n ≤ 64) (hs : SzV K xs) (hK : K ≤ 10000000000) :
    Calls Tryz.prog 14 #[.slice A n c] w fun e w' => ∃ Av cv, e = .returned (.slice Av n cv) ∧ RowAt w' (new w.heap.size) Av cv n xs ∧ Below w.heap.size w w' := by
  obtain ⟨h1, h2⟩ := h
  have h3 := vtwin_any h2 (by rw [encR_length]; omega) fun p hp => by have := encR_sz hs p hp; omega
  rw [encR_length, h1] at h3
  refine h3.mono ?_
  rintro e w' ⟨Av, cv, rfl, hv, hb⟩
  exact ⟨Av, cv, rfl, ⟨h1, hv⟩, hb⟩

end Go.Proofs.YtajmijnoikkffaaGreat

namespace Go.Proofs.YtajmijnoikkffaaGreat
open Go.RowKit Go.Shelf
set_option linter.unusedVariables false
set_option linter.unusedSimpArgs false

/-- An index of a row of n numbers. -/
abbrev PlK (n : Nat) := { i : Nat // i < n }
abbrev encK (n : Nat) (x : PlK n) : Array Value := #[.int .i64 (x.1 : Int)]
/-- The first k indices in the order. -/
def ordK (n k : Nat) : List Nat := (List.range' 1 k).map (· % n)
theorem ordK_succ (n k : Nat) : ordK n (k + 1) = ordK n k ++ [(k + 1) % n] := by
  unfold ordK
  rw [List.range'_concat, List.map_append]
  simp [Nat.add_comm]
theorem ordK_mem {n k : Nat} (h1 : 1 ≤ k) (h2 : k ≤ n) : k % n ∈ ordK n n := by
  unfold ordK
  refine List.mem_map.2 ⟨k, ?_, rfl⟩
  rw [List.mem_range'_1]
  omega
theorem ordK_mem2 {n k m : Nat} (h1 : 1 ≤ k) (h2 : k ≤ m) : k % n ∈ ordK n m := by
  unfold ordK
  refine List.mem_map.2 ⟨k, ?_, rfl⟩
  rw [List.mem_range'_1]
  omega

theorem places_any (n : Nat) (w : World) :
    Calls Tryz.prog 18 #[.int .i64 (n : Int)] w fun e w' => e = .returned (.func (.func 37) #[] #[.pointer (some ⟨w.heap.size, 0, none⟩)]) ∧ w' = w.alloc (.cells #[.int .i64 (n : Int)] 3) := by
  go_enter Tryz.func18, Tryz.ntmps18
  go_wp2
  go_ret
  exact ⟨rfl, rfl⟩

section
attribute [local go_sem] Oper.semAt_some

set_option maxRecDepth 100000 in
set_option maxHeartbeats 1000000 in
theorem places1_in (F : Fence) (m : Nat) (h8 : F.fn 37) (hro : F.round = none) (hm : 1 ≤ m) (L Ba : Nat) (S : Nat → Prop) (hSa : S Ba) (n : Nat) (hn : n ≤ 9223372036854775807)
    (J Jx : List (PlK n) → World → Prop)
    (hY : ∀ pre x W, J pre W → pre.length < n → YieldAt F (m - 1) Tryz.prog L #[.int .i64 (x.1 : Int)] W fun e W' =>
      (e = .returned (.bool true) ∧ J (pre ++ [x]) W' ∧ KeptAt S W W') ∨ (e = .returned (.bool false) ∧ Jx (pre ++ [x]) W'))
    (W : World) (hBa : W.cell? ⟨Ba, 0, none⟩ = some (.int .i64 (n : Int))) (h0 : J [] W) :
    CallsIn F m Tryz.prog 37 #[.func (.yield L) #[] #[], .pointer (some ⟨Ba, 0, none⟩)] W fun e W' => (∃ v, e = .returned v) ∧
      ((∃ ys : List (PlK n), ys.map (·.1) = ordK n n ∧ J ys W') ∨ (∃ pre : List (PlK n), (∃ k, k ≤ n ∧ pre.map (·.1) = ordK n k) ∧ Jx pre W')) := by
  refine callsIn_of_wp Tryz.func37 rfl h8 ?_ hro
  simp only [Tryz.ntmps37, List.size_toArray, List.length_cons, List.length_nil, Nat.reduceAdd, Nat.reduceSub, Array.replicate_succ, Array.replicate_zero, List.push_toArray, List.append_toArray, List.nil_append, List.cons_append]
  gi_wp2
  gi_loopw [3] (fun i wr => ∃ (k : Nat) (pre : List (PlK n)), (k + 1 ≤ n ∨ k = 0) ∧ i = .int .i64 ((k : Int) + 1) ∧ Hid (pre.map (·.1) = ordK n k) ∧ pre.length = k ∧ J pre wr ∧ KeptAt S W wr)
    (fun i _ => (n - (intOf i)).toNat)
  case atStart => exact ⟨0, [], .inr rfl, rfl, rfl, rfl, h0, KeptAt.refl _ _⟩
  case round =>
    obtain ⟨k, pre, hk, rfl, hpre, hpl, hJs, hnx⟩ := hrel
    have Hpl := Lib.hid hpl
    have hBa' := (hnx.cell (p := ⟨Ba, 0, none⟩) hSa).trans hBa
    by_cases hlt : k + 1 < n
    · obtain ⟨⟨i, hi⟩, hii⟩ : ∃ y : PlK n, y.1 = k + 1 := ⟨⟨k + 1, hlt⟩, rfl⟩
      dsimp only at hii
      obtain ⟨fn, tmps, assign, body, hy, hR⟩ := hY pre ⟨i, hi⟩ wr hJs (by omega)
      dsimp only at hy
      have hik : (k : Int) + 1 = i := by omega
      have hp' : (pre ++ [(⟨i, hi⟩ : PlK n)]).map (·.1) = ordK n (k + 1) := by rw [List.map_append, hpre.out, ordK_succ, ← hii, Nat.mod_eq_of_lt hi]; rfl
      have hid : decide ((i : Int) < (n : Int)) = true := decide_eq_true (by omega)
      have Hp' := Lib.hid hp'
      have HR := Lib.hid hR
      have Hii := Lib.hid hii
      clear hR hY h0 hpl hp' hii hpre hk
      rw [hik]
      clear hik
      gi_wp2
      refine HR.out.mono ?_
      rintro e W3 (⟨rfl, hJ3, hk3⟩ | ⟨rfl, hJx3⟩)
      · gi_wp2
        go_roundw
        case rel => exact ⟨k + 1, pre ++ [⟨i, hi⟩], .inl (by have := Hii.out; omega), by have := Hii.out; subst this; go_num, Hp', by simp [Hpl.out], hJ3, hnx.trans hk3⟩
        case measure => simp only [intOf]; omega
      · gi_wp2
        refine bodyPost_ret (results_none rfl _ _ _) rfl ?_
        exact ⟨⟨_, rfl⟩, .inr ⟨_, ⟨k + 1, by have := Hii.out; omega, Hp'.out⟩, hJx3⟩⟩
    · by_cases hn0 : n = 0
      · have hk0 : k = 0 := by omega
        subst hk0
        have hpn : pre.map (·.1) = ordK n n := hpre.out.trans (by rw [hn0])
        have HP := Lib.hid hpn
        have hnz : (n : Int) = 0 := by omega
        rw [hnz] at hBa'
        clear hpn hpre hnz hn0 hlt hk
        gi_wp2
        go_end0
        exact ⟨⟨_, rfl⟩, .inl ⟨pre, HP.out, hJs⟩⟩
      · have hkn : k + 1 = n := by omega
        have h00 : 0 < n := by omega
        obtain ⟨fn, tmps, assign, body, hy, hR⟩ := hY pre ⟨0, h00⟩ wr hJs (by omega)
        dsimp only at hy
        rw [show ((0 : Nat) : Int) = 0 from rfl] at hy
        have hp' : (pre ++ [(⟨0, h00⟩ : PlK n)]).map (·.1) = ordK n n := by
          rw [List.map_append, hpre.out]
          conv => rhs; rw [← hkn, ordK_succ, hkn, Nat.mod_self]
          rfl
        have hik : (k : Int) + 1 = n := by omega
        have hid : decide ((n : Int) < (n : Int)) = false := decide_eq_false (by omega)
        have hid2 : decide (0 < n) = true := decide_eq_true h00
        have hid3 : decide ((0 : Int) < (n : Int)) = true := decide_eq_true (by omega)
        have Hp' := Lib.hid hp'
        have HR := Lib.hid hR
        clear hR hY h0 hpl hp' hpre hk hkn hlt
        rw [hik]
        clear hik
        gi_wp2
        refine HR.out.mono ?_
        rintro e W3 (⟨rfl, hJ3, hk3⟩ | ⟨rfl, hJx3⟩)
        · gi_wp2
          go_end0
          exact ⟨⟨_, rfl⟩, .inl ⟨_, Hp'.out, hJ3⟩⟩
        · gi_wp2
          go_end0
          exact ⟨⟨_, rfl⟩, .inr ⟨_, ⟨n, Nat.le_refl _, Hp'.out⟩, hJx3⟩⟩

theorem places_stops (F : Fence) (m : Nat) (h8 : F.fn 37) (hro : F.round = none) (hm : 1 ≤ m) (Ba : Nat) (S : Nat → Prop) (hSa : S Ba) (n : Nat) (hn : n ≤ 9223372036854775807) (w : World)
    (hS : ∀ k, S k → k < w.heap.size) (hBa : w.cell? ⟨Ba, 0, none⟩ = some (.int .i64 (n : Int))) :
    SeqStopsK F m Tryz.prog 37 #[.pointer (some ⟨Ba, 0, none⟩)] (encK n) (KeptAt S) (fun ys => ys.map (·.1) = ordK n n)
      (fun pre => ∃ k, k ≤ n ∧ pre.map (·.1) = ordK n k) n w := fun L J Jx W hW _ _ hY h0 => by
  refine (places1_in F m h8 hro hm L Ba S hSa n hn J Jx hY W ?_ h0).mono ?_
  · exact (hW.cell (p := ⟨Ba, 0, none⟩) (hS _ hSa)).trans hBa
  · rintro e W' ⟨he, h | ⟨pre, hp, hx⟩⟩
    · exact ⟨he, .inl h⟩
    · exact ⟨he, .inr ⟨pre, hp, hx⟩⟩

/-- What the first place that is not 0 says. -/
def TellsK (n : Nat) (xs : List Int) (pre : List (PlK n)) (r : Int) : Prop :=
  ∃ (ini : List (PlK n)) (i : PlK n), pre = ini ++ [i] ∧ (∀ j ∈ ini, xs.getD j.1 0 = 0) ∧ xs.getD i.1 0 ≠ 0 ∧ r = (i.1 : Int)
theorem tells_pivot {n k : Nat} {xs : List Int} {pre : List (PlK n)} {r : Int} (h : TellsK n xs pre r) (hk : k ≤ n) (hp : pre.map (·.1) = ordK n k) : r = pvI n xs := by
  obtain ⟨ini, i, rfl, hz, hne, rfl⟩ := h
  rw [List.map_append] at hp
  obtain ⟨k', rfl⟩ : ∃ k', k = k' + 1 := by
    cases k with
    | zero => simp [ordK] at hp
    | succ k' => exact ⟨k', rfl⟩
  rw [ordK_succ] at hp
  obtain ⟨hini, hi⟩ := List.append_inj' hp rfl
  have hi : i.1 = (k' + 1) % n := by simpa using hi
  have e : pk n xs = k' + 1 := by
    refine pk_of (by omega) hk ?_ fun j h1 h2 => ?_
    · unfold co
      rw [← hi]
      exact hne
    · have hm : j % n ∈ ini.map (·.1) := by rw [hini]; exact ordK_mem2 h1 (by omega)
      obtain ⟨q, hq, e⟩ := List.mem_map.1 hm
      unfold co
      rw [← e]
      exact hz q hq
  unfold pvI
  rw [e, if_neg (by omega), hi]
theorem none_pivot {n : Nat} {xs : List Int} {ys : List (PlK n)} (hys : ys.map (·.1) = ordK n n) (hz : ∀ j ∈ ys, xs.getD j.1 0 = 0) : pvI n xs = -1 := by
  have e : pk n xs = 0 := pk_none fun k h1 h2 => by
    have hm : k % n ∈ ys.map (·.1) := by rw [hys]; exact ordK_mem h1 h2
    obtain ⟨q, hq, e⟩ := List.mem_map.1 hm
    unfold co
    rw [← e]
    exact hz q hq
  unfold pvI
  rw [if_pos e]

set_option maxRecDepth 100000 in
set_option maxHeartbeats 1000000 in
theorem pivot_any {w : World} {Z : Zone} {A : Option Addr} {c n : Nat} {xs : List Int} (h : RowAt w Z A c n xs) :
    Calls Tryz.prog 21 #[.slice A n c] w fun e w' => e = .returned (.int .i64 (pvI n xs)) ∧ Below w.heap.size w w' := by
  have hlen := h.len
  have hwf : ∀ f, Fence.wide.fn f := fun _ => trivial
  refine (callsIn_wide (n := 3)).1 ?_
  refine callsIn_of_wp_marks Tryz.func21 rfl trivial ?_ rfl
  simp only [Tryz.ntmps21, List.size_toArray, List.length_cons, List.length_nil, Nat.reduceAdd, Nat.reduceSub, Array.replicate_succ, Array.replicate_zero, List.push_toArray, List.append_toArray, List.nil_append, List.cons_append]
  gi_wp2_with (gi_at_call 18; refine (callsIn_wide.2 (places_any _ _)).mono ?_; rintro e w' ⟨rfl, rfl⟩)
  have hB0 : Below w.heap.size w (((w.alloc (.cells #[.slice A n c] 23)).alloc (.cells #[.int .i64 0] 3)).alloc (.cells #[.int .i64 (n : Int)] 3)) :=
    (((Below.refl _ w).alloc (Nat.le_refl _) _).alloc (by simp) _).alloc (by simp; omega) _
  have bB := ((Boxed.new w 23 (.slice A n c)).alloc (.cells #[.int .i64 0] 3)).alloc (.cells #[.int .i64 (n : Int)] 3)
  have bR := (Boxed.new (w.alloc (.cells #[.slice A n c] 23)) 3 (.int .i64 0)).alloc (.cells #[.int .i64 (n : Int)] 3)
  have bA := Boxed.new ((w.alloc (.cells #[.slice A n c] 23)).alloc (.cells #[.int .i64 0] 3)) 3 (.int .i64 (n : Int))
  have hsz : (((w.alloc (.cells #[.slice A n c] 23)).alloc (.cells #[.int .i64 0] 3)).alloc (.cells #[.int .i64 (n : Int)] 3)).heap.size = w.heap.size + 3 := by simp
  simp only [World.size_alloc] at bR bA
  generalize (((w.alloc (.cells #[.slice A n c] 23)).alloc (.cells #[.int .i64 0] 3)).alloc (.cells #[.int .i64 (n : Int)] 3)) = W0 at *
  obtain ⟨S, hS⟩ : ∃ S : Nat → Prop, S = fun k => k < w.heap.size + 3 ∧ k ≠ w.heap.size + 1 := ⟨_, rfl⟩
  have hSi : ∀ k, S k ↔ (k < w.heap.size + 3 ∧ k ≠ w.heap.size + 1) := fun k => by rw [hS]
  clear hS
  have hS0 : S w.heap.size := (hSi _).2 ⟨by omega, by omega⟩
  have Hsz := Lib.hid hsz
  have hszle : W0.heap.size ≤ w.heap.size + 3 := by omega
  have hszge : w.heap.size + 3 ≤ W0.heap.size := by omega
  clear hsz
  have hkK : ∀ (W : World) (l : Nat) (o o' : Obj), W0.heap.size ≤ l → W.heap[l]? = some o → o.isCells = false → o.isWalk = false → KeptAt S W (W.putObj l o') := fun W l o o' hl _ _ _ k hk =>
    World.putObj_heap_other (fun e => by have := (hSi k).1 hk; omega)
  refine wpIn_rangeFunc_ownG rfl (by omega) (gf := 37) (lb := #[.pointer (some ⟨w.heap.size + 1 + 1, 0, none⟩)]) rfl trivial (enters_of Tryz.func37 (by kernel_rfl) rfl)
    (places_stops Fence.wide (3 - 1) trivial rfl (by omega) (w.heap.size + 1 + 1) S ((hSi _).2 ⟨by omega, by omega⟩) n hlen W0 (fun k hk => by have := (hSi k).1 hk; omega) bA.cell)
    (fun h k => KeptAt.trans h k) hkK (Below.refl _ _) (fun _ => rfl)
    (fun pre W => ((∀ j ∈ pre, xs.getD j.1 0 = 0) ∧ Boxed W (w.heap.size + 1) 3 (.int .i64 0)) ∧ ((KeptAt S W0 W ∧ W0.heap.size ≤ W.heap.size) ∧ Below w.heap.size w W))
    (fun c pre W => (∃ r, (c = .ret ∧ TellsK n xs pre r) ∧ Boxed W (w.heap.size + 1) 3 (.int .i64 r)) ∧ ((KeptAt S W0 W ∧ W0.heap.size ≤ W.heap.size) ∧ Below w.heap.size w W))
    (OwnFrom.and (OwnFrom.and (ownFrom_pure _ _) (Own.from (boxed_own _ _ _) _)) (OwnFrom.and (keptAt_own (fun k hk => by have := (hSi k).1 hk; omega)) (ownFrom_below (Nat.le_refl _) (by omega))))
    (fun c => OwnFrom.and (fun s X Y row hs hg hr => by
      obtain ⟨r, hp, hb⟩ := hs
      exact ⟨r, hp, hb.kept hg (fun e' => by obtain ⟨_, o, ho, hc⟩ := hr _ e'.symm; rw [show X.heap[w.heap.size + 1]? = _ from hb] at ho; cases ho; cases hc)⟩) (OwnFrom.and (keptAt_own (fun k hk => by have := (hSi k).1 hk; omega)) (ownFrom_below (Nat.le_refl _) (by omega))))
    ⟨⟨fun j hj => by simp at hj, bR⟩, ⟨KeptAt.refl _ _, Nat.le_refl _⟩, hB0⟩
    (fun x => { tmps := #[.slice A n c, .pointer (some ⟨w.heap.size, 0, none⟩), .pointer (some ⟨w.heap.size + 1, 0, none⟩), .int .i64 (x.1 : Int), .slice A n c, .int .i64 (n : Int), .func (.func 37) #[] #[.pointer (some ⟨w.heap.size + 1 + 1, 0, none⟩)], .int .i64 (x.1 : Int), undef, undef, undef, undef, undef, undef, undef, undef], defers := [] }) ?assign ?body ?done ?stop
  case assign =>
    intro l x W K hK
    gi_wp2
    exact hK
  case body =>
    rintro l pre ⟨i, hi⟩ W ⟨⟨hall, hbx⟩, ⟨hk, hle⟩, hB⟩ hlt
    have hcb : W.cell? ⟨w.heap.size, 0, none⟩ = some (.slice A n c) := (hk.cell (p := ⟨w.heap.size, 0, none⟩) hS0).trans bB.cell
    obtain ⟨b, o, B1, d1, s, ls, rfl, hbb, c0, c1, hu, hnm⟩ := (h.below hB).at hi
    have hbc := hbx.cell
    have hbf := hbx.frozen
    have Hall := Lib.hid hall
    have hz := nm_zero hnm
    have Hz := Lib.hid hz
    clear hall hz hnm hu
    by_cases he : ls.length = 0
    · have hx := Hz.out.2 he
      have Hx := Lib.hid hx
      rw [he] at c1
      clear he hx Hz
      gi_wp2
      refine ⟨KeepsFrom.refl _ _, KeptAt.refl _ _, ⟨fun j hj => ?_, hbx⟩, ⟨hk, hle⟩, hB⟩
      rcases List.mem_append.1 hj with hj | hj
      · exact Hall.out j hj
      · obtain rfl := List.mem_singleton.1 hj
        exact Hx.out
    · have hx : xs.getD i 0 ≠ 0 := fun e => he (Hz.out.1 e)
      have Hx := Lib.hid hx
      have hd : decide ((0 : Int) < (ls.length : Int)) = true := decide_eq_true (by omega)
      have hd2 : decide (0 < ls.length) = true := decide_eq_true (by omega)
      clear he hx Hz
      gi_wp2
      have hkS : KeptAt S W (W.setCell ⟨w.heap.size + 1, 0, none⟩ (.int .i64 (i : Int))) := fun k hk => Below.heap_setCell _ _ _ _ ((hSi k).1 hk).2
      refine ⟨(KeepsOthers.setCell _ _ _).from _, ⟨_, ⟨rfl, pre, ⟨i, hi⟩, rfl, Hall.out, Hx.out, rfl⟩, hbx.set _⟩, ⟨hk.trans hkS, by simpa [World.setCell] using hle⟩, hB.setCell (p := ⟨w.heap.size + 1, 0, none⟩) (by simp) _⟩
  case done =>
    rintro D ys W hD hys ⟨⟨hall, hbx⟩, ⟨hk, hle⟩, hB⟩ hK
    have hbc := hbx.cell
    have hbf := hbx.frozen
    gi_wp2
    have hK' := (KeepsOthers.setCell W ⟨w.heap.size + 1, 0, none⟩ (.int .i64 (-1))).same D _ hK rfl
    refine ⟨by simp, .inl ⟨_, _, rfl, run_takeDeferred hK', ?_⟩⟩
    have hc5 := cell_kept (hbx.set (.int .i64 (-1))).cell (grownBy_putObj' _ D (.deferred none)) (fun r e => by cases e; exact ⟨_, hK', rfl⟩)
    refine ⟨.int .i64 (-1), ?_, ?_, (hB.setCell (p := ⟨w.heap.size + 1, 0, none⟩) (by simp) _).trans (belowK_b (w := w) (Nat.le_refl _) _ D _ (.deferred none) (by omega) hK' rfl rfl)⟩
    · simp [results, Tryz.f21, go_sem, hc5]
    · rw [none_pivot hys hall]
  case stop =>
    rintro D c pre W hD ⟨k, hk', hpre⟩ ⟨⟨r, ⟨rfl, ht⟩, hbx⟩, ⟨hk, hle⟩, hB⟩ hK
    have hbc := hbx.cell
    gi_wp2
    refine ⟨by simp, .inl ⟨_, _, rfl, run_takeDeferred hK, ?_⟩⟩
    have hc5 := cell_kept hbc (grownBy_putObj' _ D (.deferred none)) (fun r e => by cases e; exact ⟨_, hK, rfl⟩)
    refine ⟨.int .i64 r, ?_, ?_, hB.trans (belowK_b (w := w) (Nat.le_refl _) _ D _ (.deferred none) (by omega) hK rfl rfl)⟩
    · simp [results, Tryz.f21, go_sem, hc5]
    · rw [tells_pivot ht hk' hpre]
end

set_option maxRecDepth 100000 in
set_option maxHeartbeats 1000000 in
theorem before_any {w : World} (a b : Nat) (ha : a ≤ 1000000) (hb : b ≤ 1000000) :
    Calls Tryz.prog 40 #[.int .i64 (a : Int), .int .i64 (b : Int)] w fun e w' => e = .returned (.bool (beforeI a b)) ∧ w = w' := by
  have he : beforeI a b = (decide (a ≠ b) && decide (a ≠ 0) && (decide (b = 0) || decide (a < b))) := rfl
  generalize beforeI a b = q at *
  by_cases h1 : a = b
  · have g1 : ((a : Int) != (b : Int)) = false := by simp [h1]
    have hq : q = false := by rw [he]; simp [h1]
    subst hq
    clear he h1
    go_enter Tryz.func40, Tryz.ntmps40
    go_wp2
    go_ret
    exact ⟨rfl, rfl⟩
  · have g1 : ((a : Int) != (b : Int)) = true := bne_iff_ne.2 (by omega)
    by_cases h2 : a = 0
    · have g2 : ((a : Int) != 0) = false := by simp [h2]
      have hq : q = false := by rw [he]; simp [h2]
      subst hq
      clear he h1 h2
      go_enter Tryz.func40, Tryz.ntmps40
      go_wp2
      go_ret
      exact ⟨rfl, rfl⟩
    · have g2 : ((a : Int) != 0) = true := bne_iff_ne.2 (by omega)
      by_cases h3 : b = 0
      · have g3 : ((b : Int) == 0) = true := by simp [h3]
        have hq : q = true := by rw [he]; simp [h2, h3]
        subst hq
        clear he h1 h2 h3
        go_enter Tryz.func40, Tryz.ntmps40
        go_wp2
        go_ret
        exact ⟨rfl, rfl⟩
      · have g3 : ((b : Int) == 0) = false := beq_eq_false_iff_ne.2 (by omega)
        have hq : q = decide ((a : Int) < (b : Int)) := by
          rw [he]
          by_cases h4 : a < b <;> simp [h1, h2, h3, h4]
        clear he h1 h2 h3
        rcases Nat.lt_or_ge a b with h4 | h4
        · rw [decide_eq_true (by omega)] at hq
          subst hq
          have g4 : decide (a < b) = true := decide_eq_true h4
          go_enter Tryz.func40, Tryz.ntmps40
          go_wp2
          go_ret
          exact ⟨rfl, rfl⟩
        · rw [decide_eq_false (by omega)] at hq
          subst hq
          have g4 : decide (a < b) = false := decide_eq_false (by omega)
          go_enter Tryz.func40, Tryz.ntmps40
          go_wp2
          go_ret
          exact ⟨rfl, rfl⟩

end Go.Proofs.YtajmijnoikkffaaGreat

namespace Go.Proofs.YtajmijnoikkffaaGreat
open Go.RowKit
set_option linter.unusedVariables false
set_option linter.unusedSimpArgs false

/-- A zone, and all new memory. -/
def orNew (Z : Zone) (B : Nat) : Zone := ⟨fun b => Z.blk b ∨ B ≤ b, False⟩
theorem le_orNew (Z : Zone) (B : Nat) : Z.le (orNew Z B) := ⟨fun b h => .inl h, fun h => h.elim⟩
theorem new_orNew (Z : Zone) (B C : Nat) (h : B ≤ C) : (new C).le (orNew Z B) := ⟨fun b hb => .inr (Nat.le_trans h hb), fun h => h.elim⟩

set_option maxRecDepth 100000 in
set_option maxHeartbeats 1000000 in
theorem without_any {w : World} {Z Y : Zone} {A B : Option Addr} {c d n K M k : Nat} {xs ys : List Int} (ha : RowAt w Z A c n xs) (hb : RowAt w Y B d n ys) (k1 : 1 ≤ k) (k2 : k ≤ n) (hn : n ≤ 64) (hs1 : SzV K xs) (hs2 : SzV M ys) (hK : K + M + 1 ≤ 10000000000) :
    Calls Tryz.prog 34 #[.slice A n c, .slice B n d, .int .i64 ((k % n : Nat) : Int)] w fun e w' => ∃ Av cv, e = .returned (.slice Av n cv) ∧ RowAt w' (orNew Z w.heap.size) Av cv n (wo n xs ys k) ∧ Below w.heap.size w w' := by
  have hi : k % n < n := Nat.mod_lt _ (by omega)
  obtain ⟨b, o, B1, d1, s, l, rfl, hbb, c0, c1, hu, hnm⟩ := ha.at hi
  obtain ⟨b2, o2, B2, d2, t, l2, rfl, hbb2, c2, c3, hu2, hnm2⟩ := hb.at hi
  rw [← co_get xs] at hnm
  rw [← co_get ys] at hnm2
  have hz := nm_zero hnm
  have hl1 : l.length ≤ K := by rw [hnm.2]; exact szv_co hs1 k
  have hl2 : l2.length ≤ M := by rw [hnm2.2]; exact szv_co hs2 k
  obtain ⟨i, hid⟩ : ∃ i, i = k % n := ⟨_, rfl⟩
  rw [← hid] at c0 c1 c2 c3 hi ⊢
  have hlen := ha.len
  by_cases he : l.length = 0
  · have hx := hz.2 he
    have e : wo n xs ys k = xs := if_pos hx
    rw [e]
    have HA := Lib.hid (ha.mono (le_orNew Z w.heap.size))
    rw [he] at c1
    clear ha hb hx e hz hs1 hs2 hu hu2 hnm hnm2 he hl1 hid
    go_enter Tryz.func34, Tryz.ntmps34
    go_wp2
    go_ret
    exact ⟨_, _, rfl, HA.out, Below.refl _ _⟩
  · have hx : co n xs k ≠ 0 := fun e => he (hz.1 e)
    obtain ⟨s3, l3, h3⟩ : ∃ s3 l3, Nm (-co n xs k) s3 l3 := ⟨_, _, Nm.mk' _⟩
    have hl3 : l3.length ≤ K := by rw [h3.2, Int.natAbs_neg, ← hnm.2]; exact hl1
    have hg : ((l.length : Int) == 0) = false := beq_eq_false_iff_ne.2 (by omega)
    have hg2 : decide (l.length = 0) = false := decide_eq_false he
    have hlx := ha.1
    have hly := hb.1
    have C1 := Lib.hid (wneg_n (w := w) hnm h3 rfl (by omega) hu)
    have C2 : Hid (∀ W An cn, Below w.heap.size w W → U64s W (new w.heap.size) An cn l3 → Calls Tryz.prog 51 #[.agg #[.bool t, .slice B2 l2.length d2], .slice (some ⟨b, o, none⟩) n c, .agg #[.bool s3, .slice An l3.length cn], .slice (some ⟨b2, o2, none⟩) n d] W fun e w' => ∃ Av cv, e = .returned (.tuple #[.slice Av n cv, .int .i64 0]) ∧ RowAt w' (new W.heap.size) Av cv n (mixV (co n ys k) xs (-co n xs k) ys) ∧ Below W.heap.size W w') := fun W An cn g1 g2 =>
      rmix (K := max K M) (ha.below g1) (hb.below g1) (hu2.below g1) g2 hnm2 h3 hn (szv_mono hs1 (Nat.le_max_left _ _)) (szv_mono hs2 (Nat.le_max_right _ _)) (by omega) (by omega) (by omega)
    have hsm : SzV (K + M + 1) (mixV (co n ys k) xs (-co n xs k) ys) := szv_mono (szv_mix hs1 hs2 (szv_co hs2 k) (by rw [Int.natAbs_neg]; exact szv_co hs1 k)) (by omega)
    have C3 : Hid (∀ W A c, RowAt W (new w.heap.size) A c n (mixV (co n ys k) xs (-co n xs k) ys) → Calls Tryz.prog 33 #[.slice A n c] W fun e w' => ∃ Av cv, e = .returned (.tuple #[.slice Av n cv, .int .i64 0]) ∧ RowAt w' (new W.heap.size) Av cv n (wo n xs ys k) ∧ Below W.heap.size W w') := fun W A c g => by
      have e : wo n xs ys k = lowV (mixV (co n ys k) xs (-co n xs k) ys) := if_neg hx
      rw [e]
      exact rprime g hn hsm hK
    clear ha hb hx hz hs1 hs2 hu hu2 hnm hnm2 he hl1 hl2 hl3 hid hsm h3
    generalize l.length = L at *
    generalize l2.length = L2 at *
    go_enter Tryz.func34, Tryz.ntmps34
    go_wp2_with fail
    refine C1.out.mono ?_
    rintro e w1 ⟨An, cn, rfl, un, hc⟩
    have hal : Below w1.heap.size w1 (w1.alloc (.cells #[.bool s3, .slice An l3.length cn] 42)) := (Below.refl _ _).alloc (Nat.le_refl _) _
    obtain ⟨x0, x1, _, _, _⟩ := Box.new w1 (.bool s3) (.slice An l3.length cn) 42
    have hB1 := from_ hc hal
    replace un := un.below hal
    have hd0 := (Below.refl (w1.alloc (.cells #[.bool s3, .slice An l3.length cn] 42)).heap.size (w1.alloc (.cells #[.bool s3, .slice An l3.length cn] 42))).drew
    have y2 := keepC hB1 c2
    have y3 := keepC hB1 c3
    have z2 := keepC hd0 y2
    have z3 := keepC hd0 y3
    have z0 := keepC hd0 x0
    have z1 := keepC hd0 x1
    have hB2 := from_ hB1 hd0
    have C4 := Lib.hid (C2.out _ _ _ hB2 (un.below hd0))
    have HB2 := Lib.hid hB2
    clear un hc hal hB1 hd0 hB2
    generalize hl3' : l3.length = L3 at *
    clear hl3'
    have hs := And.intro z2 (And.intro z3 (And.intro z0 z1))
    clear z2 z3 z0 z1
    go_wp2
    first | go_region_held3 (fun w' => w'.cell? ⟨b2, o2 + i * 2, none⟩ = some (.bool t) ∧ w'.cell? ⟨b2, o2 + i * 2 + 1, none⟩ = some (.slice B2 L2 d2) ∧ w'.cell? ⟨w1.heap.size, 0, none⟩ = some (.bool s3) ∧ w'.cell? ⟨w1.heap.size, 1, none⟩ = some (.slice An L3 cn))
      (first
        | with_reducible exact hs
        | with_reducible exact hsA)
      (first
        | (go_at_call 51; with_reducible refine C4.out.mono ?_; rintro e w2 ⟨Av, cv, rfl, hv, hc⟩; have hsA := And.intro (keepC hc hs.1) (And.intro (keepC hc hs.2.1) (And.intro (keepC hc hs.2.2.1) (keepC hc hs.2.2.2))))) | fail
    have hB3 := from_ HB2.out hc
    have hv2 := hv.mono (Y := new w.heap.size) (new_le HB2.out.size)
    clear hv hc
    go_wp2_with fail
    refine (C3.out _ _ _ hv2).mono ?_
    rintro e w3 ⟨Av2, cv2, rfl, hv3, hc⟩
    have hB4 := from_ hB3 hc
    have HV := Lib.hid (hv3.mono (new_orNew Z w.heap.size _ hB3.size))
    clear hv2 hv3 hc
    go_wp2
    go_ret
    exact ⟨_, _, rfl, HV.out, hB4⟩

end Go.Proofs.YtajmijnoikkffaaGreat

namespace Go.Proofs.YtajmijnoikkffaaGreat
open Go.RowKit
set_option linter.unusedVariables false
set_option linter.unusedSimpArgs false

/-- All memory from a block on. -/
def since (B : Nat) : Zone := ⟨fun b => B ≤ b, False⟩
theorem new_since {B C : Nat} (h : B ≤ C) : (new C).le (since B) := ⟨fun b hb => Nat.le_trans h hb, fun h => h.elim⟩
theorem since_le {B C : Nat} (h : B ≤ C) : (since C).le (since B) := ⟨fun b hb => Nat.le_trans h hb, fun h => h.elim⟩
theorem orNew_since {B C : Nat} (h : B ≤ C) : (orNew (since B) C).le (since B) := ⟨fun b hb => hb.elim id fun g => Nat.le_trans h g, fun h => h.elim⟩

/-- Rows of n numbers in memory. -/
def MatN (w : World) (Z : Zone) (A : Option Addr) (c n : Nat) (F : List (List Int)) : Prop := (∀ r ∈ F, r.length = n) ∧ MatAt w Z A c (F.map encR)
theorem MatN.below {w w' : World} {Z : Zone} {A : Option Addr} {c n : Nat} {F : List (List Int)} (h : MatN w Z A c n F) (hb : Below w.heap.size w w') : MatN w' Z A c n F := ⟨h.1, h.2.below hb⟩
theorem MatN.mono {w : World} {Z Y : Zone} {A : Option Addr} {c n : Nat} {F : List (List Int)} (h : MatN w Z A c n F) (hz : Z.le Y) : MatN w Y A c n F := ⟨h.1, h.2.mono hz⟩
theorem MatN.len {w : World} {Z : Zone} {A : Option Addr} {c n : Nat} {F : List (List Int)} (h : MatN w Z A c n F) : F.length ≤ 9223372036854775807 := by
  have := h.2.len
  simpa using this
theorem MatN.at {w : World} {Z : Zone} {A : Option Addr} {c n : Nat} {F : List (List Int)} (h : MatN w Z A c n F) {j : Nat} (hj : j < F.length) :
    ∃ b o B d, A = some ⟨b, o, none⟩ ∧ b < w.heap.size ∧ w.cell? ⟨b, o + j, none⟩ = some (.slice B n d) ∧ RowAt w Z B d n F[j] := by
  have hj2 : j < (F.map encR).length := by simpa using hj
  obtain ⟨b, o, B, d, e, hb, c0, hv⟩ := h.2.at hj2
  have hl := h.1 F[j] (List.getElem_mem hj)
  have e2 : (F.map encR)[j] = encR F[j] := by simp
  rw [e2] at c0 hv
  rw [encR_length, hl] at c0
  exact ⟨b, o, B, d, e, hb, c0, hl, hv⟩

theorem rs_take {n k : Nat} {F : List (List Int)} {a : List Int} (h : k < F.length) : rs n (F.take (k + 1)) a = wo n (rs n (F.take k) a) F[k] (pk n F[k]) := by
  unfold rs
  rw [List.take_succ_eq_append_getElem h, List.foldl_append]
  rfl

set_option maxRecDepth 100000 in
set_option maxHeartbeats 1000000 in
theorem rowrest_any {w : World} {Z Y : Zone} {A B : Option Addr} {c d g n K M : Nat} {F : List (List Int)} {x : List Int} (hg : w.cell? ⟨g, 0, none⟩ = some (.slice A F.length c)) (hF : MatN w Z A c n F) (ha : RowAt w Y B d n x) (hn : n ≤ 64) (hs : SzV K x) (hM : ∀ r ∈ F, SzV M r) (hp : ∀ r ∈ F, pk n r ≠ 0) (hK : K + F.length * (M + 1) + M + 1 ≤ 10000000000) :
    Calls Tryz.prog 16 #[.pointer (some ⟨g, 0, none⟩), .slice B n d] w fun e w' => ∃ Av cv, e = .returned (.slice Av n cv) ∧ RowAt w' (since w.heap.size) Av cv n (restF n F x) ∧ Below w.heap.size w w' := by
  have C0 := Lib.hid (rprime ha hn hs (by omega))
  have hlen := hF.len
  have hgl := lt_of_cell hg
  clear ha
  go_enter Tryz.func16, Tryz.ntmps16
  go_wp2_with fail
  refine C0.out.mono ?_
  rintro e w1 ⟨A1, c1, rfl, hv, hc⟩
  have hg1 := keepC hc hg
  have hF1 := hF.below hc
  have hv1 := hv.mono (Y := since w.heap.size) (new_since (Nat.le_refl _))
  have hlx := hv1.1
  have hsz1 := hc.size
  clear hv hg hF C0
  go_wp2
  go_loopw [1, 17] (fun v i wr => ∃ (k : Nat) (Av : Option Addr) (cv : Nat), k ≤ F.length ∧ i = .int .i64 (k : Int) ∧ v = .slice Av n cv ∧ RowAt wr (since w.heap.size) Av cv n (rs n (F.take k) (lowV x)) ∧ Below w1.heap.size w1 wr) (fun _ i _ => F.length - (intOf i).toNat)
  case atStart => exact ⟨0, _, _, Nat.zero_le _, rfl, rfl, hv1, Below.refl _ _⟩
  case round =>
    obtain ⟨k, Av, cv, hk, rfl, rfl, hv, hbel⟩ := hrel
    by_cases hlt : k < F.length
    · obtain ⟨b, o, B2, d2, rfl, hbb, x0, hr⟩ := (hF1.below hbel).at hlt
      have hm := List.getElem_mem hlt
      have hpk := hp _ hm
      have hpv : pvI n F[k] = ((pk n F[k] % n : Nat) : Int) := if_neg hpk
      have C1 := pivot_any hr
      rw [hpv] at C1
      have hsk : SzV (K + k * (M + 1)) (rs n (F.take k) (lowV x)) := by
        have h9 := szv_rs (n := n) (F.take k) (lowV x) K (szv_low hs) fun r hr => hM r (List.mem_of_mem_take hr)
        refine szv_mono h9 ?_
        rw [List.length_take]
        exact Nat.add_le_add_left (Nat.mul_le_mul_right _ (Nat.min_le_left _ _)) _
      have hkm : k * (M + 1) ≤ F.length * (M + 1) := Nat.mul_le_mul_right _ hk
      have C2 : Hid (∀ W, Below wr.heap.size wr W → Calls Tryz.prog 34 #[.slice Av n cv, .slice B2 n d2, .int .i64 ((pk n F[k] % n : Nat) : Int)] W fun e w' => ∃ A3 c3, e = .returned (.slice A3 n c3) ∧ RowAt w' (orNew (since w.heap.size) W.heap.size) A3 c3 n (rs n (F.take (k + 1)) (lowV x)) ∧ Below W.heap.size W w') := fun W h => by
        rw [rs_take hlt]
        exact without_any (hv.below h) (hr.below h) (by omega) pk_le hn hsk (hM _ hm) (by omega)
      have C1' := Lib.hid C1
      have HB := Lib.hid hbel
      clear hm hpk hpv C1 hsk hkm hr hv hs hM hp
      generalize pk n F[k] % n = p at *
      go_wp2_with fail
      refine C1'.out.mono ?_
      rintro e w2 ⟨rfl, hc2⟩
      go_wp2_with fail
      refine (C2.out _ hc2).mono ?_
      rintro e w3 ⟨A3, c3, rfl, hv3, hc3⟩
      have hB2 := from_ HB.out hc2
      have hB3 := from_ hB2 hc3
      have hv4 := Lib.hid (hv3.mono (orNew_since (B := w.heap.size) (Nat.le_trans hsz1 hB2.size)))
      clear hv3 hc3 hc2
      go_wp2
      go_roundw
      case rel => exact ⟨k + 1, _, _, by omega, by go_num, rfl, hv4.out, hB3⟩
      case measure => simp [intOf]; omega
    · obtain rfl : k = F.length := by omega
      rw [List.take_length] at hv
      have HV := Lib.hid hv
      have HB := Lib.hid (from_ hc hbel)
      clear hv
      go_wp2
      go_ret
      exact ⟨_, _, rfl, HV.out, HB.out⟩

end Go.Proofs.YtajmijnoikkffaaGreat

namespace Go.Proofs.YtajmijnoikkffaaGreat
open Go.RowKit
set_option linter.unusedVariables false
set_option linter.unusedSimpArgs false

/-- All memory from a block on, but for one block. -/
def offO (B g : Nat) : Zone := ⟨fun b => B ≤ b ∧ b ≠ g, False⟩
theorem new_offO {B C g : Nat} (h : B ≤ C) (hg : g < C) : (new C).le (offO B g) := ⟨fun b hb => by have h1 : C ≤ b := hb; exact ⟨by omega, by omega⟩, fun h => h.elim⟩
theorem offO_since (B g : Nat) : (offO B g).le (since B) := ⟨fun b hb => hb.1, fun h => h.elim⟩
theorem offO_le {B C g : Nat} (h : B ≤ C) : (offO C g).le (offO B g) := ⟨fun b hb => ⟨Nat.le_trans h hb.1, hb.2⟩, fun h => h.elim⟩
theorem U64s.offX {w : World} {B g : Nat} {A : Option Addr} {c : Nat} {l : List Nat} (h : U64s w (offO B g) A c l) {j : Nat} {v : Value} : U64s (w.setCell ⟨g, j, none⟩ v) (offO B g) A c l :=
  h.keep fun b hb _ => Below.heap_setCell _ _ _ _ hb.2

/-- A row of numbers of one's own. -/
structure OutR (w : World) (B g n : Nat) (zs : List Int) (xs : List Value) : Prop where
  own : w.ownsRow B 42 2 (.slice (some ⟨g, 0, none⟩) n n) n xs
  len : zs.length = n
  cells : ∀ j (hj : j < zs.length), ∃ s A l c, xs[j * 2]? = some (.bool s) ∧ xs[j * 2 + 1]? = some (.slice A (l : List Nat).length c) ∧ U64s w (offO B g) A c l ∧ Nm zs[j] s l

theorem made_two {n i : Nat} (h : i < n * 2) : (madeCells (Value.agg #[.bool false, .slice none 0 0]).cells (n * 2)).toList[i]? = some (if i % 2 = 0 then .bool false else .slice none 0 0) := by
  have e : (Value.agg #[.bool false, .slice none 0 0]).cells = #[.bool false, .slice none 0 0] := rfl
  rw [e, Array.getElem?_toList]
  unfold madeCells
  rw [Array.getElem?_map, Array.getElem?_eq_getElem (by simpa using h)]
  simp only [Array.getElem_range, Option.map_some]
  rcases Nat.mod_two_eq_zero_or_one i with h | h
  · simp [h]
  · simp [h]
theorem OutR.zero {w : World} {B g n : Nat} {xs : List Value} (h : w.ownsRow B 42 2 (.slice (some ⟨g, 0, none⟩) n n) n xs) (hx : xs = (madeCells (Value.agg #[.bool false, .slice none 0 0]).cells (n * 2)).toList) : OutR w B g n (List.replicate n 0) xs := by
  refine ⟨h, by simp, fun j hj => ?_⟩
  rw [List.length_replicate] at hj
  have e0 : limbs (0 : Int).natAbs = [] := limbs_eq_nil.2 rfl
  refine ⟨false, none, [], 0, ?_, ?_, U64s.nil _ _, ?_⟩
  · rw [hx, made_two (by omega), if_pos (by omega)]
  · rw [hx, made_two (by omega), if_neg (by omega)]; rfl
  · rw [List.getElem_replicate]; exact ⟨rfl, e0.symm⟩
theorem OutR.below {w w' : World} {B g n : Nat} {zs : List Int} {xs : List Value} (h : OutR w B g n zs xs) (hb : Below w.heap.size w w') : OutR w' B g n zs xs := by
  refine ⟨own_below h.own hb, h.len, fun j hj => ?_⟩
  obtain ⟨s, A, l, c, h0, h1, hu, hn⟩ := h.cells j hj
  exact ⟨s, A, l, c, h0, h1, hu.below hb, hn⟩
/-- Where the j-th number stands. -/
theorem OutR.at {w : World} {B g n : Nat} {zs : List Int} {xs : List Value} (h : OutR w B g n zs xs) {i : Nat} (hi : i < n) : ∃ x0 x1, w.cell? ⟨g, i * 2, none⟩ = some x0 ∧ w.cell? ⟨g, i * 2 + 1, none⟩ = some x1 ∧ w.frozen? ⟨g, i * 2, none⟩ = false ∧ w.frozen? ⟨g, i * 2 + 1, none⟩ = false := by
  have d0 := h.own.cellAt (i * 2) (by omega)
  have d1 := h.own.cellAt (i * 2 + 1) (by omega)
  obtain ⟨s, A, l, c, h0, h1, _, _⟩ := h.cells i (by have := h.len; omega)
  exact ⟨_, _, d0.trans h0, d1.trans h1, h.own.frozenAt _, h.own.frozenAt _⟩
theorem OutR.lt {w : World} {B g n : Nat} {zs : List Int} {xs : List Value} (h : OutR w B g n zs xs) : B ≤ g ∧ g < w.heap.size := h.own.lt g rfl
theorem OutR.set {w : World} {B g n i : Nat} {zs : List Int} {xs : List Value} {s : Bool} {l : List Nat} {A : Option Addr} {c : Nat} {z : Int} (h : OutR w B g n zs xs) (hi : i < n) (hu : U64s w (offO B g) A c l) (hz : Nm z s l) :
    OutR ((w.setCell ⟨g, i * 2, none⟩ (.bool s)).setCell ⟨g, i * 2 + 1, none⟩ (.slice A l.length c)) B g n (zs.set i z) ((xs.set (i * 2) (.bool s)).set (i * 2 + 1) (.slice A l.length c)) := by
  have o1 := (h.own.stored (i * 2) (.bool s)).1
  have o2 := (o1.stored (i * 2 + 1) (.slice A l.length c)).1
  have hxl := h.own.1
  have hzl := h.len
  refine ⟨o2, by rw [List.length_set, hzl], fun j hj => ?_⟩
  rw [List.length_set] at hj
  by_cases hji : j = i
  · subst hji
    refine ⟨s, A, l, c, ?_, ?_, (hu.offX).offX, ?_⟩
    · rw [List.getElem?_set_ne (by omega), List.getElem?_set_self (by omega)]
    · rw [List.getElem?_set_self (by rw [List.length_set]; omega)]
    · rw [List.getElem_set_self]; exact hz
  · obtain ⟨s', A', l', c', h0, h1, hu', hn'⟩ := h.cells j hj
    refine ⟨s', A', l', c', ?_, ?_, (hu'.offX).offX, ?_⟩
    · rw [List.getElem?_set_ne (by omega), List.getElem?_set_ne (by omega)]; exact h0
    · rw [List.getElem?_set_ne (by omega), List.getElem?_set_ne (by omega)]; exact h1
    · rw [List.getElem_set_ne (by omega)]; exact hn'
theorem OutR.row {w : World} {B g n : Nat} {zs : List Int} {xs : List Value} (h : OutR w B g n zs xs) (hn : n ≤ 1000000) : RowAt w (since B) (some ⟨g, 0, none⟩) n n zs := by
  have hzl := h.len
  have hlt := h.lt
  refine ⟨hzl, by rw [encR_length]; omega, by omega, fun h0 => ⟨g, 0, rfl, hlt.1, hlt.2, fun h => h.elim, fun j hj => ?_⟩⟩
  rw [encR_length] at hj
  obtain ⟨s, A, l, c, c0, c1, hu, hnm⟩ := h.cells j hj
  have e : (encR zs)[j]'(by rw [encR_length]; exact hj) = (s, l) := by
    unfold encR
    rw [List.getElem_map, hnm.1, hnm.2]
  rw [e]
  exact ⟨A, c, by rw [Nat.zero_add, h.own.cellAt (j * 2) (by omega)]; exact c0, by rw [Nat.zero_add, h.own.cellAt (j * 2 + 1) (by omega)]; exact c1, hu.mono (offO_since _ _)⟩

end Go.Proofs.YtajmijnoikkffaaGreat
