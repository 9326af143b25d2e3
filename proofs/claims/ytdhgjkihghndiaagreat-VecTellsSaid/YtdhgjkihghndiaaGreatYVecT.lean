/-
  append to a row of one's own: the row lies where it lay, or in new memory; rows of whole numbers that grow so. No conditions.
  Rows: the document's product of two rows of numbers. No conditions but bounds on lengths.
  Rows of whole numbers: vec.Twin, vec.Content, vec.Prime. No conditions but bounds on lengths.
  Rows of whole numbers: vec.Prime; contents and lowest terms, the plain laws. No conditions but bounds on lengths.
  The document's own answer, layer 5: Down, Floor, Ceil, Exact. No conditions but bounds on lengths.
  Rows of the document: Check, two, Dot, Zero, Compared, Cmp, Common, Content. No conditions but bounds on lengths.
  Rows of the document: Twin, Mixed, Low; Add, Scale, Mix, Prime. No conditions but bounds on lengths.
  Rows of the document: Mixed. No conditions but bounds on lengths.
  Rows of the document: Low. No conditions but bounds on lengths.
  Rows of the document: Add, Scale, Mix, Prime. No conditions but bounds on lengths.
  Rows: what vec and the document answer, in pairs. No conditions but bounds on lengths.
-/
import Derived.Deep.RegionLaw
import Derived.Deep.RegionHeld3
import Derived.Test.YtdhgjkihghndiaaGreatYVecC
import Derived.Test.YtdhgjkihghndiaaGreatYVecW
import Derived.Test.YtdhgjkihghndiaaGreatYW5D
import Derived.Test.YtdhgjkihghndiaaGreatYW5C
import Derived.Test.YtdhgjkihghndiaaGreatYGcdA
import Derived.Test.YtdhgjkihghndiaaGreatYWhU
import Derived.Test.YtdhgjkihghndiaaGreatYRefS
import Derived.Test.YtdhgjkihghndiaaGreatYW5G
namespace Go.Proofs.YtdhgjkihghndiaaGreat
open Go.RowKit
set_option linter.unusedVariables false
set_option linter.unusedSimpArgs false

/-- The row's block stays, or is a new one. -/
def Fresh (w : World) (v v' : Value) : Prop := v'.ownBlock = v.ownBlock ∨ ∀ k, v'.ownBlock = some k → w.heap.size ≤ k

theorem append_fresh {P : Program} (w : World) (base : Nat) (t ty e : TypeId) (i : TypeInfo) (z : Value) (size bytes : Nat) (ht : P.underlying t = some (.slice e)) (hi : P.info? e = some i) (hz : i.zero = some z)
    (hsize : i.size = size) (hby : i.bytes = bytes) (hzs : z.cells.size = size) (hsz : 0 < size)
    (v : Value) (n : Nat) (xs : List Value) (hown : w.ownsRow base e size v n xs)
    (a : Addr) (m c : Nat) (news : List Value) (hl : news.length = m * size) (hnews : ∀ j u, news[j]? = some u → w.cell? (a.add j) = some u) (h1 : ∀ u ∈ news, u.oneCell' = true)
    (h63 : n + m ≤ maxLen) (hbytes : (n + m) * bytes ≤ 140737488355328) (hbase : base ≤ w.heap.size) :
    ∃ v' w', (Builtin.append_ #[t, t] ty #[v, .slice (some a) m c]).run P w = .ok v' w' ∧ w'.ownsRow base e size v' (n + m) (xs ++ news) ∧ w.grownBy w' v.ownBlock ∧ Fresh w v v' := by
  obtain ⟨v', w', hr, h2, h3, _⟩ := run_append_own (P := P) w base t ty e i z size bytes ht hi hz hsize hby hzs hsz v n xs hown a m c news hl hnews h1 h63 hbytes hbase
  refine ⟨v', w', hr, h2, h3, ?_⟩
  have hcase := hown.2
  rcases hcase with ⟨rfl, rfl⟩ | ⟨g, cap, cur, rfl, hbg, hg, hnc, hcm, hcs, htake⟩
  · right
    have hx : xs = [] := List.eq_nil_of_length_eq_zero (by simpa using hown.1)
    subst hx
    obtain ⟨v2, w2, hr2, h4, _, _⟩ := run_append_own (P := P) w w.heap.size t ty e i z size bytes ht hi hz hsize hby hzs hsz (.slice none 0 0) 0 [] (World.ownsRow_nil _ _ _ _) a m c news hl hnews h1 h63 hbytes (Nat.le_refl _)
    rw [hr] at hr2
    injection hr2 with e1 e2
    subst e1 e2
    exact fun k hk => (h4.lt k hk).1
  · by_cases hroom : n + m ≤ cap
    · left
      have hfit : n * i.size + news.length ≤ cur.size := by rw [hl, hcs, hsize, ← Nat.add_mul]; exact Nat.mul_le_mul_right _ hroom
      have hr2 := run_append_room (P := P) w t ty e i ht hi g n cap cur hg a m c news (by rw [hsize]; exact hl) hnews h1 hroom hfit
      rw [hr] at hr2
      injection hr2 with e1 e2
      rw [e1]
      rfl
    · right
      have holds : ∀ j u, xs[j]? = some u → w.cell? ((⟨g, 0, none⟩ : Addr).add j) = some u := hown.cells (g := g) rfl
      have hr2 := run_append_grow (P := P) w t ty e i z ht hi hz ⟨g, 0, none⟩ n cap xs (by rw [hsize]; exact hown.1) holds a m c news (by rw [hsize]; exact hl) hnews (by omega) (by simp only [maxLen] at h63; omega) (growslice_fits (by omega) (by rw [hby]; exact hbytes))
      rw [hr] at hr2
      injection hr2 with e1 e2
      rw [e1]
      intro k hk
      simp [Value.ownBlock] at hk
      omega

/-- append of one thing to a row of the call's own. -/
theorem wpList_appF {P : Program} (w : World) {ops : Array Oper} {rest : List Oper} {o : Oper} {a : Act} {Q : Exit → Act → World → Prop} (hgd : o.guard = none) (s x : Operand) (t : TypeId)
    (ho : o.op = .call { callee := .builtin .append, args := #[s, x], argTypes := #[t, t] })
    (base : Nat) (e : TypeId) (i : TypeInfo) (z : Value) (size bytes : Nat) (ht : P.underlying t = some (.slice e)) (hi : P.info? e = some i) (hz : i.zero = some z) (hsize : i.size = size) (hby : i.bytes = bytes) (hzs : z.cells.size = size) (hsz : 0 < size) (hbb : bytes ≤ 1000)
    (v : Value) (n : Nat) (xs : List Value) (hs : a.eval s = v) (hown : w.ownsRow base e size v n xs)
    (g : Nat) (news : List Value) (hx : a.eval x = .slice (some ⟨g, 0, none⟩) 1 1) (hl : news.length = size) (hc : ∀ j u, news[j]? = some u → w.cell? ⟨g, j, none⟩ = some u) (h1 : ∀ u ∈ news, u.oneCell' = true)
    (hb : n + 1 ≤ 1000000000) (hbase : base ≤ w.heap.size)
    (h : ∀ v' w', w'.ownsRow base e size v' (n + 1) (xs ++ news) → w.grownBy w' v.ownBlock → Fresh w v v' → wpList P ops Q rest (a.put o.dst v') w') : wpList P ops Q (o :: rest) a w := by
  refine wpList_plain hgd fun _ hK => ?_
  have hbt : (n + 1) * bytes ≤ 140737488355328 := Nat.le_trans (Nat.mul_le_mul hb hbb) (by omega)
  obtain ⟨v', w', hrun, r1, r2, r3⟩ := append_fresh (P := P) w base t o.type e i z size bytes ht hi hz hsize hby hzs hsz v n xs hown ⟨g, 0, none⟩ 1 1 news (by omega) (fun j u hu => by rw [Addr.add_lit, Nat.zero_add]; exact hc j u hu) h1 (by simp only [maxLen]; omega) hbt hbase
  unfold Oper.wp
  simp [execOp, ho, resolve, invoke, builtin, hs, hx, hrun, Result.andThen]
  exact hK _ _ (h v' w' r1 r2 r3)

/-- The same, as one step of a region that draws its order. -/
theorem step_appF {P : Program} {ops : Array Oper} {o : Oper} {a : Act} {w : World} {K : Act → World → Prop} {Q : Exit → Act → World → Prop} {E : Prop}
    (hg : o.guard = none) (s x : Operand) (t : TypeId) (hop : o.op = Op.call { callee := Callee.builtin Builtin.append, args := #[s, x], argTypes := #[t, t] })
    (base : Nat) (e : TypeId) (i : TypeInfo) (z : Value) (size bytes : Nat) (ht : P.underlying t = some (.slice e)) (hi : P.info? e = some i) (hz : i.zero = some z) (hsize : i.size = size) (hby : i.bytes = bytes) (hzs : z.cells.size = size) (hsz : 0 < size) (hbb : bytes ≤ 1000)
    (v : Value) (n : Nat) (xs : List Value) (hs : a.eval s = v) (hown : w.ownsRow base e size v n xs)
    (g : Nat) (news : List Value) (hx : a.eval x = .slice (some ⟨g, 0, none⟩) 1 1) (hl : news.length = size) (hc : ∀ j u, news[j]? = some u → w.cell? ⟨g, j, none⟩ = some u) (h1 : ∀ u ∈ news, u.oneCell' = true)
    (hb : n + 1 ≤ 1000000000) (hbase : base ≤ w.heap.size)
    (hK : ∀ v' w', w'.ownsRow base e size v' (n + 1) (xs ++ news) → w.grownBy w' v.ownBlock → Fresh w v v' → K (a.put o.dst v') w') :
    if Region.wanted o (yielded ops a.tmps) = true then Oper.wp P o a w K Q else E := by
  have hw : Region.wanted o (yielded ops a.tmps) = true := by simp [Region.wanted, hg]
  rw [if_pos hw]
  have hbt : (n + 1) * bytes ≤ 140737488355328 := Nat.le_trans (Nat.mul_le_mul hb hbb) (by omega)
  obtain ⟨v', w', hrun, r1, r2, r3⟩ := append_fresh (P := P) w base t o.type e i z size bytes ht hi hz hsize hby hzs hsz v n xs hown ⟨g, 0, none⟩ 1 1 news (by omega) (fun j u hu => by rw [Addr.add_lit, Nat.zero_add]; exact hc j u hu) h1 (by simp only [maxLen]; omega) hbt hbase
  unfold Oper.wp
  simp [execOp, hop, resolve, invoke, builtin, hs, hx, hrun, Result.andThen]
  exact hK v' w' r1 r2 r3

/-- From block B on, but not in the row's own block. -/
def newX (B : Nat) (v : Value) : Zone := ⟨fun b => B ≤ b ∧ v.ownBlock ≠ some b, True⟩
theorem newX_le (B : Nat) (v : Value) : (newX B v).le (new B) := ⟨fun _ h => h.1, fun h => h⟩
theorem U64s.toX {w : World} {B K : Nat} {v : Value} {A : Option Addr} {c : Nat} {l : List Nat} (h : U64s w (new K) A c l) (hv : ∀ k, v.ownBlock = some k → k < K) (hB : B ≤ K) : U64s w (newX B v) A c l :=
  h.mono ⟨fun b hb => ⟨Nat.le_trans hB hb, fun e => by have h1 := hv b e; have h2 : K ≤ b := hb; omega⟩, fun h => h⟩
theorem U64s.grow {w w' : World} {B : Nat} {v v' : Value} {A : Option Addr} {c : Nat} {l : List Nat} (h : U64s w (newX B v) A c l) (hg : w.grownBy w' v.ownBlock) (hf : Fresh w v v') : U64s w' (newX B v') A c l := by
  have h1 := h.keep (w' := w') fun b hb hl => hg.block b hl (fun e => hb.2 e.symm)
  refine ⟨h1.small, h1.cap, h1.max, h1.nul, fun h0 => ?_⟩
  obtain ⟨b, o, e, hb, hfz, hc⟩ := h1.row h0
  obtain ⟨b2, o2, e2, hb2, _, hc2⟩ := h.row h0
  rw [e] at e2
  injection e2 with e2
  injection e2 with e3 e4
  subst e3 e4
  have hlt := lt_of_cell (hc2 0 _ (List.getElem?_eq_getElem h0))
  refine ⟨b, o, e, ⟨hb.1, fun e5 => ?_⟩, hfz, hc⟩
  rcases hf with h3 | h3
  · exact hb.2 (h3.symm.trans e5)
  · have h4 := h3 b e5
    have h5 : b < w.heap.size := hlt
    omega

/-- The row's cells in which the first k numbers stand. -/
def CellsF (w : World) (B : Nat) (v : Value) (xs : List Value) (k : Nat) (qs : List (Bool × List Nat)) : Prop :=
  ∀ j (hj : j < qs.length), j < k → ∃ A c, xs[j * 2]? = some (.bool qs[j].1) ∧ xs[j * 2 + 1]? = some (.slice A qs[j].2.length c) ∧ U64s w (newX B v) A c qs[j].2
theorem CellsF.zero (w : World) (B : Nat) (v : Value) (xs : List Value) (qs : List (Bool × List Nat)) : CellsF w B v xs 0 qs := fun j _ h => absurd h (by omega)
theorem CellsF.below {w w' : World} {B : Nat} {v : Value} {xs : List Value} {k : Nat} {qs : List (Bool × List Nat)} (h : CellsF w B v xs k qs) (hb : Below w.heap.size w w') : CellsF w' B v xs k qs := fun j hj hjk => by
  obtain ⟨A, c, c0, c1, hu⟩ := h j hj hjk
  exact ⟨A, c, c0, c1, hu.below hb⟩
theorem CellsF.grow {w w' : World} {B : Nat} {v v' : Value} {xs : List Value} {k : Nat} {qs : List (Bool × List Nat)} {A : Option Addr} {c : Nat} (h : CellsF w B v xs k qs) (hl : xs.length = k * 2) (hg : w.grownBy w' v.ownBlock) (hf : Fresh w v v') (hk : k < qs.length)
    (hu : U64s w (newX B v) A c (qs[k]).2) : CellsF w' B v' (xs ++ [.bool (qs[k]).1, .slice A (qs[k]).2.length c]) (k + 1) qs := fun j hj hjk => by
  rcases Nat.lt_or_ge j k with h1 | h1
  · obtain ⟨A', c', c0, c1, hu'⟩ := h j hj h1
    refine ⟨A', c', ?_, ?_, hu'.grow hg hf⟩
    · rw [List.getElem?_append_left (by omega)]; exact c0
    · rw [List.getElem?_append_left (by omega)]; exact c1
  · obtain rfl : j = k := by omega
    refine ⟨A, c, ?_, ?_, hu.grow hg hf⟩
    · rw [List.getElem?_append_right (by omega), hl, Nat.sub_self]; rfl
    · rw [List.getElem?_append_right (by omega), hl, show j * 2 + 1 - j * 2 = 1 by omega]; rfl
theorem CellsF.fin {w : World} {B : Nat} {v : Value} {xs : List Value} {qs : List (Bool × List Nat)} {e : TypeId} (h : CellsF w B v xs qs.length qs) (hown : w.ownsRow B e 2 v qs.length xs) : IsVec w (new B) v qs := by
  obtain ⟨A2, c2, e2⟩ := own_shape hown
  have hcase := hown.2
  rcases hcase with ⟨e1, h0⟩ | ⟨g, cap, cur, e1, hB, hh, hcap, hm, _⟩
  · have hq : qs = [] := List.eq_nil_of_length_eq_zero h0
    subst hq
    exact ⟨none, 0, e1, VecAt.nil _ _⟩
  · subst e1
    refine ⟨some ⟨g, 0, none⟩, cap, rfl, hcap, by simpa [maxLen] using hm, fun h0 => ⟨g, 0, rfl, hB, (hown.lt g rfl).2, fun _ j => by rw [Nat.zero_add]; exact hown.frozenAt j, fun j hj => ?_⟩⟩
    obtain ⟨A, c, c0, c1, hu⟩ := h j hj hj
    exact ⟨A, c, by rw [Nat.zero_add, hown.cellAt (j * 2) (by omega)]; exact c0, by rw [Nat.zero_add, hown.cellAt (j * 2 + 1) (by omega)]; exact c1, hu.mono (newX_le _ _)⟩
theorem own_lt {w : World} {base : Nat} {e : TypeId} {size : Nat} {v : Value} {n : Nat} {xs : List Value} (h : w.ownsRow base e size v n xs) : ∀ k, v.ownBlock = some k → k < w.heap.size := fun k hk => (h.lt k hk).2
theorem two_news {W : World} {u1 u2 : Value} {t : TypeId} : ∀ j u, [u1, u2][j]? = some u → (W.alloc (.cells #[u1, u2] t)).cell? ⟨W.heap.size, j, none⟩ = some u := fun j u hu => by
  match j, hu with
  | 0, hu => cases hu; exact cell_newest (W := W) rfl rfl
  | 1, hu => cases hu; exact cell_newest (W := W) rfl rfl
end Go.Proofs.YtdhgjkihghndiaaGreat

namespace Go.Proofs.YtdhgjkihghndiaaGreat
open Go.RowKit
set_option linter.unusedVariables false
set_option linter.unusedSimpArgs false

theorem Nm.enc {x : Int} {s : Bool} {l : List Nat} (h : Nm x s l) : okI s l = true ∧ zof s l = x := by
  obtain ⟨rfl, rfl⟩ := h
  refine ⟨?_, zof_z x⟩
  unfold okI
  rw [good_limbs]
  by_cases hx : x < 0
  · have : 0 < (limbs x.natAbs).length := len_pos.2 (by omega)
    simp [hx]
    intro h2
    rw [h2] at this
    simp at this
  · simp [hx]

theorem r5times_n {w : World} {Z1 Z2 : Zone} {x y z : Int} {s t r : Bool} {l k m : List Nat} {A B : Option Addr} {c d : Nat} (h1 : Nm x s l) (h2 : Nm y t k) (h3 : Nm z r m) (hz : x * y = z) (hl : l.length ≤ 90000) (hl2 : k.length ≤ 90000) (u1 : U64s w Z1 A c l) (u2 : U64s w Z2 B d k) :
    Calls Tryz.prog 62 #[.agg #[.bool s, .slice A l.length c], .agg #[.bool t, .slice B k.length d]] w fun e w' => ∃ Av cv, e = .returned (.agg #[.bool r, .slice Av m.length cv]) ∧ U64s w' (new w.heap.size) Av cv m ∧ Below w.heap.size w w' := by
  refine (r5times_good (s := s) (l := l) (t := t) (k := k) ⟨_, rfl, A, c, rfl, u1⟩ ⟨_, rfl, B, d, rfl, u2⟩ h1.enc.1 h2.enc.1 hl hl2).mono ?_
  rintro e w' ⟨v, rfl, hv, hb⟩
  rw [h1.enc.2, h2.enc.2, hz] at hv
  obtain ⟨Av, cv, rfl, hu⟩ := h3.of hv
  exact ⟨Av, cv, rfl, hu, hb⟩
theorem r5sum_n {w : World} {Z1 Z2 : Zone} {x y z : Int} {s t r : Bool} {l k m : List Nat} {A B : Option Addr} {c d : Nat} (h1 : Nm x s l) (h2 : Nm y t k) (h3 : Nm z r m) (hz : x + y = z) (hl : l.length ≤ 10000) (hl2 : k.length ≤ 10000) (u1 : U64s w Z1 A c l) (u2 : U64s w Z2 B d k) :
    Calls Tryz.prog 61 #[.agg #[.bool s, .slice A l.length c], .agg #[.bool t, .slice B k.length d]] w fun e w' => ∃ Av cv, e = .returned (.agg #[.bool r, .slice Av m.length cv]) ∧ U64s w' (new w.heap.size) Av cv m ∧ Below w.heap.size w w' := by
  refine (r5sum_good (h1.isZ u1) (h2.isZ u2) (by rw [← h1.len]; exact hl) (by rw [← h2.len]; exact hl2)).mono ?_
  rintro e w' ⟨v, rfl, hv, hb⟩
  rw [hz] at hv
  obtain ⟨Av, cv, rfl, hu⟩ := h3.of hv
  exact ⟨Av, cv, rfl, hu, hb⟩
theorem r5signed_n {w : World} {Z1 : Zone} {x : Int} {s : Bool} {l : List Nat} {A : Option Addr} {c : Nat} {g : Int} (h1 : Nm x s l) (hg : sgn x = g) (u1 : U64s w Z1 A c l) :
    Calls Tryz.prog 99 #[.agg #[.bool s, .slice A l.length c]] w fun e w' => e = .returned (.int .i64 g) ∧ Below w.heap.size w w' := by
  subst hg
  exact r5signed_good (h1.isZ u1)

set_option maxRecDepth 100000 in
set_option maxHeartbeats 4000000 in
theorem r7product_n {w : World} {Z Y : Zone} {A B : Option Addr} {c d K : Nat} {ps qs : List (Bool × List Nat)} {xs ys : List Int} {r : Bool} {m : List Nat} (ha : VecAt w Z A c ps) (hb : VecAt w Y B d qs) (hx : NmV xs ps) (hy : NmV ys qs) (hlen : ps.length = qs.length) (hl : ps.length ≤ 64) (hK1 : ∀ p ∈ ps, p.2.length ≤ K) (hK2 : ∀ p ∈ qs, p.2.length ≤ K) (hK : K ≤ 4000) (h3 : Nm (dotZ xs ys) r m) :
    Calls Tryz.prog 33 #[.slice A ps.length c, .slice B qs.length d] w fun e w' => ∃ Av cv, e = .returned (.agg #[.bool r, .slice Av m.length cv]) ∧ U64s w' (new w.heap.size) Av cv m ∧ Below w.heap.size w w' := by
  obtain ⟨bT, bR, hB0⟩ := boxes2 w (.bool false) (.slice none 0 0) (.bool false) (.slice none 0 0) 27
  have Hal := Lib.hid hB0
  obtain ⟨n, hn⟩ : ∃ n, n = ps.length := ⟨_, rfl⟩
  have hn2 : qs.length = n := by omega
  have hxl : xs.length = n := by rw [hx.len]; exact hn.symm
  have hyl : ys.length = n := by rw [hy.len]; exact hn2
  rw [← hn] at hl ⊢
  rw [hn2]
  have Hn := Lib.hid (show n = ps.length ∧ qs.length = n ∧ xs.length = n ∧ ys.length = n from ⟨hn, hn2, hxl, hyl⟩)
  clear hn hn2 hxl hyl hlen hB0
  go_enter Tryz.func33, Tryz.ntmps33
  go_wp2
  go_loopw [6] (fun i wr => ∃ (k : Nat) (so : Bool) (lo : List Nat) (Ao : Option Addr) (co : Nat), k ≤ n ∧ i = .int .i64 (k : Int) ∧ Below w.heap.size w wr ∧ Box wr w.heap.size (.bool false) (.slice none 0 0) ∧ Box wr (w.heap.size + 1) (.bool so) (.slice Ao lo.length co) ∧ U64s wr (new (w.heap.size + 2)) Ao co lo ∧ Hid (Nm (dotK xs ys k) so lo) ∧ lo.length ≤ 2 * K + k) (fun i _ => n - (intOf i).toNat)
  case atStart => exact ⟨0, false, [], none, 0, Nat.zero_le _, rfl, Hal.out, bT, bR, U64s.nil _ _, ⟨rfl, (limbs_eq_nil.2 rfl).symm⟩, by simp⟩
  case round =>
    clear bT bR Hal
    obtain ⟨k, so, lo, Ao, co, hk, rfl, hbel, bT, bR, uo, hno, hlo⟩ := hrel
    by_cases hlt : k < n
    · obtain ⟨hn1, hn2, hn3, hn4⟩ := Hn.out
      have hkp : k < ps.length := by omega
      have hkq : k < qs.length := by omega
      have hkx : k < xs.length := by omega
      have hky : k < ys.length := by omega
      obtain ⟨b, o, B1, d1, rfl, hbb, c0, c1, hu⟩ := (ha.below hbel).at hkp
      obtain ⟨b2, o2, B2, d2, rfl, hbb2, c2, c3, hu2⟩ := (hb.below hbel).at hkq
      have na := hx.at k hkx hkp
      have nb := hy.at k hky hkq
      have hst := dotK_succ hkx hky
      have hp1 := hK1 ps[k] (List.getElem_mem hkp)
      have hq1 := hK2 qs[k] (List.getElem_mem hkq)
      generalize dotK xs ys k = z0 at *
      generalize xs[k] = x at *
      generalize ys[k] = y at *
      generalize ps[k].1 = s at *
      generalize ps[k].2 = l at *
      generalize qs[k].1 = t at *
      generalize qs[k].2 = l2 at *
      obtain ⟨sp, lp, np⟩ : ∃ s l, Nm (x * y) s l := ⟨_, _, Nm.mk' _⟩
      obtain ⟨sz, lz, nz⟩ : ∃ s l, Nm (z0 + x * y) s l := ⟨_, _, Nm.mk' _⟩
      have hlp : lp.length ≤ 2 * K := by
        have := lz_mul x y
        rw [← np.len, ← na.len, ← nb.len] at this
        omega
      have hlz : lz.length ≤ 2 * K + (k + 1) := by
        have := lz_add z0 (x * y)
        rw [← nz.len, ← np.len, ← hno.out.len] at this
        omega
      have hald : Below wr.heap.size wr wr.drew := (Below.refl _ _).drew
      have bRd := bR.below hald
      have bTd := bT.below hald
      obtain ⟨r0, r1, rf0, rf1, _⟩ := bR
      have s0 := (show wr.drew.cell? ⟨w.heap.size + 1, 0, none⟩ = _ from r0)
      have s1 := (show wr.drew.cell? ⟨w.heap.size + 1, 1, none⟩ = _ from r1)
      have s2 := (show wr.drew.cell? ⟨b, o + k * 2, none⟩ = _ from c0)
      have s3 := (show wr.drew.cell? ⟨b, o + k * 2 + 1, none⟩ = _ from c1)
      have s4 := (show wr.drew.cell? ⟨b2, o2 + k * 2, none⟩ = _ from c2)
      have s5 := (show wr.drew.cell? ⟨b2, o2 + k * 2 + 1, none⟩ = _ from c3)
      have C0 := Lib.hid (r5times_n na nb np rfl (by omega) (by omega) (hu.below hald) (hu2.below hald))
      have C1 := Lib.hid (fun (w1 : World) (A0 : Option Addr) (c0 : Nat) (Z0 : Zone) (h : Below wr.heap.size wr w1) (h' : U64s w1 Z0 A0 c0 lp) => r5sum_n hno.out np nz rfl (by omega) (by omega) (uo.below h) h')
      have Hald := Lib.hid hald
      have Hbel := Lib.hid hbel
      have hnz : Nm (dotK xs ys (k + 1)) sz lz := by rw [hst]; exact nz
      have Hnz := Lib.hid hnz
      have hw1 : w.heap.size + 1 < wr.heap.size := bRd.lt
      clear na nb np nz hst hno hu hu2 hald hbel hx hy ha hb hnz h3 hK1 hK2 r0 r1 c0 c1 c2 c3 hkp hkq hkx hky hn1 hn2 hn3 hn4 uo
      go_wp2
      go_region_with (first
        | (go_at_call 62; refine C0.out.mono ?_; rintro e w2 ⟨A0, c0, rfl, u0, hc0⟩; have p0 := keepC hc0 s0; have p1 := keepC hc0 s1; have p2 := keepC hc0 s2; have p3 := keepC hc0 s3; have p4 := keepC hc0 s4; have p5 := keepC hc0 s5)
        | (go_at_call 61; refine (C1.out _ _ _ _ (from_ Hald.out hc0) u0).mono ?_; rintro e w3 ⟨A1, c1, rfl, u1, hc1⟩; have q0 := keepC hc1 p0; have q1 := keepC hc1 p1; have q2 := keepC hc1 p2; have q3 := keepC hc1 p3; have q4 := keepC hc1 p4; have q5 := keepC hc1 p5; obtain ⟨_, _, f0, f1, _⟩ := (bRd.below hc0).below hc1))
      all_goals
        have hb3 := from_ (from_ Hald.out hc0) hc1
        have hB3 := from_ Hbel.out hb3
        have hP := ((bRd.below hc0).below hc1).put hB3 (by omega) (.bool sz) (.slice A1 lz.length c1)
        have hs0 := hc0.size
        have hs1 := Hald.out.size
        have hT3 := (bTd.below hc0).below hc1
        have hT4 : Box ((w3.setCell ⟨w.heap.size + 1, 0, none⟩ (.bool sz)).setCell ⟨w.heap.size + 1, 1, none⟩ (.slice A1 lz.length c1)) w.heap.size (.bool false) (.slice none 0 0) := hT3.other (by omega)
        have hu3 : U64s ((w3.setCell ⟨w.heap.size + 1, 0, none⟩ (.bool sz)).setCell ⟨w.heap.size + 1, 1, none⟩ (.slice A1 lz.length c1)) (new (w.heap.size + 2)) A1 c1 lz := (u1.mono (new_le (show w.heap.size + 2 ≤ w2.heap.size by omega))).keep fun b hb _ => by
          have hb' : w.heap.size + 2 ≤ b := hb
          rw [Below.heap_setCell _ _ _ _ (show b ≠ w.heap.size + 1 by omega), Below.heap_setCell _ _ _ _ (show b ≠ w.heap.size + 1 by omega)]
        have HU := Lib.hid hu3
        have HP := Lib.hid hP
        have HT := Lib.hid hT4
        clear hP hu3 u1 u0 hB3 hb3 hT3 hT4
        go_wp2
        go_roundw
        case rel => exact ⟨k + 1, sz, lz, A1, c1, by omega, by go_num, HP.out.bel, HT.out, HP.out.box, HU.out, Hnz, by omega⟩
        case measure => simp [intOf]; omega
    · obtain rfl : n = k := by omega
      have hz := hno.out
      rw [dotK_all (by have := Hn.out.2.2.1; omega)] at hz
      obtain ⟨rfl, rfl⟩ : so = r ∧ lo = m := ⟨hz.1.trans h3.1.symm, hz.2.trans h3.2.symm⟩
      have hP := bT.put hbel (by omega) (.bool so) (.slice Ao lo.length co)
      have hu3 : U64s ((wr.setCell ⟨w.heap.size, 0, none⟩ (.bool so)).setCell ⟨w.heap.size, 1, none⟩ (.slice Ao lo.length co)) (new (w.heap.size + 2)) Ao co lo := uo.keep fun b hb _ => by
        have hb' : w.heap.size + 2 ≤ b := hb
        rw [Below.heap_setCell _ _ _ _ (show b ≠ w.heap.size by omega), Below.heap_setCell _ _ _ _ (show b ≠ w.heap.size by omega)]
      have HU := Lib.hid (hu3.mono (Y := new w.heap.size) (new_le (by omega)))
      have HP := Lib.hid hP
      obtain ⟨r0, r1, rf0, rf1, _⟩ := bR
      obtain ⟨t0, t1, tf0, tf1, _⟩ := bT
      clear hz hno uo hx hy ha hb h3 hu3 hP
      go_wp2
      refine bodyPost_ret (res_int rfl _ w.heap.size rfl HP.out.c0 HP.out.c1) rfl ?_
      exact ⟨_, _, rfl, HU.out, HP.out.bel⟩

end Go.Proofs.YtdhgjkihghndiaaGreat

namespace Go.Proofs.YtdhgjkihghndiaaGreat
open Go.RowKit
set_option linter.unusedVariables false
set_option linter.unusedSimpArgs false

theorem clone_n {w : World} {Z : Zone} {A : Option Addr} {c : Nat} {l : List Nat} (ha : U64s w Z A c l) (hb : l.length ≤ 1000000) :
    Calls Tryz.prog 58 #[.slice A l.length c] w fun e w' => ∃ A' c', e = .returned (.slice A' l.length c') ∧ U64s w' (new w.heap.size) A' c' l ∧ Below w.heap.size w w' := by
  refine (clone_any rfl ha hb).mono ?_
  rintro e w' ⟨v, rfl, hown, hb⟩
  obtain ⟨A', c', rfl⟩ := own_shape hown
  exact ⟨A', c', rfl, isU_after ha.small rfl hown (Nat.le_refl _), hb⟩

set_option maxRecDepth 100000 in
set_option maxHeartbeats 1000000 in
theorem vtwin1 {w : World} {Z : Zone} {s : Bool} {l : List Nat} {A : Option Addr} {c ix : Nat} (u1 : U64s w Z A c l) (hl : l.length ≤ 100000) :
    Calls Tryz.prog 57 #[.int .i64 (ix : Int), .agg #[.bool s, .slice A l.length c]] w fun e w' => ∃ Av cv, e = .returned (.agg #[.bool s, .slice Av l.length cv]) ∧ U64s w' (new w.heap.size) Av cv l ∧ Below w.heap.size w w' := by
  obtain ⟨bA, bR, hB0⟩ := boxes2 w (.bool s) (.slice A l.length c) (.bool false) (.slice none 0 0) 27
  obtain ⟨a0, a1, _, _, _⟩ := bA
  have hd : Below w.heap.size w ((w.alloc (.cells #[.bool s, .slice A l.length c] 27)).alloc (.cells #[.bool false, .slice none 0 0] 27)).drew := hB0.drew
  have bRd := bR.below (W' := ((w.alloc (.cells #[.bool s, .slice A l.length c] 27)).alloc (.cells #[.bool false, .slice none 0 0] 27)).drew) ((Below.refl _ _).drew)
  have s0 := (show ((w.alloc (.cells #[.bool s, .slice A l.length c] 27)).alloc (.cells #[.bool false, .slice none 0 0] 27)).drew.cell? ⟨w.heap.size, 0, none⟩ = _ from a0)
  have s1 := (show ((w.alloc (.cells #[.bool s, .slice A l.length c] 27)).alloc (.cells #[.bool false, .slice none 0 0] 27)).drew.cell? ⟨w.heap.size, 1, none⟩ = _ from a1)
  have C0 := Lib.hid (clone_n (u1.below hd) (by omega))
  have HB := Lib.hid hd
  clear u1 hB0 hd bR a0 a1
  go_enter Tryz.func57, Tryz.ntmps57
  go_wp2
  go_region_held3 (fun w' => w'.cell? ⟨w.heap.size, 0, none⟩ = some (.bool s) ∧ w'.cell? ⟨w.heap.size, 1, none⟩ = some (.slice A l.length c))
    (first
      | (go_keep; done)
      | exact ⟨t0, t1⟩
      | exact ⟨stV t0 (by omega), stV t1 (by omega)⟩)
    (first
      | (go_at_call 58; with_reducible refine C0.out.mono ?_; rintro e w1 ⟨A1, c1, rfl, u1, hc1⟩; have t0 := keepC hc1 s0; have t1 := keepC hc1 s1; obtain ⟨q0, q1, f0, f1, _⟩ := bRd.below hc1))
  all_goals
    have hBz := from_ HB.out hc1
    have hP := (bRd.below hc1).put hBz (by omega) (.bool s) (.slice A1 l.length c1)
    have hiv : IsU w1 _ (.slice A1 l.length c1) l := ⟨A1, c1, rfl, u1⟩
    have hu2 := hP.keep (by have := HB.out.size; have := bRd.lt; omega) hiv
    have Hu := Lib.hid hu2
    have HP := Lib.hid hP
    clear hu2 hP hiv
    go_wp2
    refine bodyPost_ret (res_int rfl _ (w.heap.size + 1) rfl HP.out.c0 HP.out.c1) rfl ?_
    obtain ⟨A', c', e', h'⟩ := Hu.out
    injection e' with e1 e2 e3
    subst e1 e3
    exact ⟨_, _, rfl, h', HP.out.bel⟩

set_option maxRecDepth 100000 in
set_option maxHeartbeats 2000000 in
theorem veach_twin {w : World} {Z : Zone} {A : Option Addr} {c : Nat} {ps qs : List (Bool × List Nat)} (ha : VecAt w Z A c ps) (hq : qs.length = ps.length) (hl : ps.length ≤ 100000)
    (hF : ∀ j (hj : j < ps.length) (hj' : j < qs.length) (w1 : World) B d, Below w.heap.size w w1 → U64s w1 Z B d ps[j].2 → Calls Tryz.prog 57 #[.int .i64 (j : Int), .agg #[.bool ps[j].1, .slice B ps[j].2.length d]] w1 fun e w' => ∃ A c, e = .returned (.agg #[.bool qs[j].1, .slice A qs[j].2.length c]) ∧ U64s w' (new w1.heap.size) A c qs[j].2 ∧ Below w1.heap.size w1 w') :
    Calls Tryz.prog 34 #[.slice A ps.length c, .func (.func 57) #[] #[]] w fun e w' => ∃ Av cv, e = .returned (.slice Av qs.length cv) ∧ VecAt w' (new w.heap.size) Av cv qs ∧ Below w.heap.size w w' := by
  obtain ⟨i0, hi, hz0, hz1, hz2⟩ := info_parts infoI
  obtain ⟨n, hn⟩ : ∃ n, n = ps.length := ⟨_, rfl⟩
  have hn' : qs.length = n := by omega
  have HF := Lib.hid hF
  have hmx := ha.max
  have hcp := ha.cap
  rw [← hn] at hl hcp ⊢
  have Hn := Lib.hid hn
  have Hn' := Lib.hid hn'
  clear hF hq hn hn'
  go_enter Tryz.func34, Tryz.ntmps34
  go_wp2_with (at_make; go_loud (refine wpList_make_full _ rfl _ _ 23 rfl w.heap.size 27 i0 (.agg #[.bool false, .slice none 0 0]) 2 Tryz.underlying23 hi hz0 hz1 .i64 .i64 _ _ n rfl rfl rfl rfl (by rw [hz2]; omega) (by simp only [maxLen]; omega) (Nat.le_refl _) ?_); intro w1 hown hgrow)
  have hb1 : Below w.heap.size w w1 := (Below.refl _ w).grown hgrow (Nat.le_refl _) (fun k h => by cases h)
  generalize (madeCells (Value.agg #[.bool false, .slice none 0 0]).cells (n * 2)).toList = xs0 at hown
  clear hgrow
  go_wp2
  go_loopw [13] (fun i wr => ∃ (k : Nat) (xs : List Value), k ≤ n ∧ i = .int .i64 (k : Int) ∧ wr.ownsRow w.heap.size 27 2 (.slice (some ⟨w.heap.size, 0, none⟩) n n) n xs ∧ Hid (CellsQ wr w.heap.size xs k qs) ∧ Below w.heap.size w wr ∧ w.heap.size < wr.heap.size) (fun i _ => n - (intOf i).toNat)
  case atStart => exact ⟨0, xs0, Nat.zero_le _, rfl, hown, fun j hj h => absurd h (by omega), hb1, (hown.lt _ rfl).2⟩
  case round =>
    clear hown hb1
    obtain ⟨k, xs, hk, rfl, hown, hcells, hbel, hgt⟩ := hrel
    by_cases hlt : k < n
    · have hkp : k < ps.length := by have := Hn.out; omega
      have hkq : k < qs.length := by have := Hn'.out; omega
      obtain ⟨b, o, B, d, rfl, hbb, c0, c1, hu⟩ := (ha.below hbel).at hkp
      have hxl := hown.1
      have hput := fun (w2 w' : World) (A2 : Option Addr) (c2 : Nat) (h1 : CellsQ w2 w.heap.size xs k qs) h2 h3 => h1.put (w' := w') (A := A2) (c := c2) (by have := Hn'.out; omega) hkq h2 h3
      have Hput := Lib.hid hput
      have hal : Below wr.heap.size wr (wr.alloc (.cells #[.bool ps[k].1, .slice B ps[k].2.length d] 27)) := (Below.refl _ _).alloc (Nat.le_refl _) _
      have hfk := HF.out k hkp hkq _ B d (from_ hbel hal) (by
        obtain ⟨b', o', B', d', e, _, _, c1', hu'⟩ := ha.at hkp
        injection e with e
        injection e with e1 e2
        subst e1 e2
        have h5 := (keepC hbel c1').symm.trans c1
        injection h5 with h5
        injection h5 with h6 h7 h8
        subst h6 h8
        exact (hu'.below hbel).below hal)
      have Hfk := Lib.hid hfk
      have Hal := Lib.hid hal
      clear hput hfk hal hu
      generalize ps[k].1 = s at *
      generalize ps[k].2 = l at *
      generalize qs[k].1 = s2 at *
      generalize qs[k].2 = l2 at *
      go_wp2_with fail
      refine Hfk.out.mono ?_
      rintro e w2 ⟨Au, cu, rfl, hu', hb2⟩
      have hb3 := from_ Hal.out hb2
      have hown2 := own_below hown hb3
      have hcells2 := hcells.out.keep (w' := w2) fun b _ hl => hb3.block b hl
      have hub := hu'.mono (Y := new (w.heap.size + 1)) (new_le (by have := Hal.out.size; omega))
      have hP := Hput.out w2 ((w2.setCell ⟨w.heap.size, k * 2, none⟩ (.bool s2)).setCell ⟨w.heap.size, k * 2 + 1, none⟩ (.slice Au l2.length cu)) Au cu hcells2 hub (fun b hb _ => by
        rw [Below.heap_setCell _ _ _ _ hb, Below.heap_setCell _ _ _ _ hb])
      have d0 := hown2.cellAt (k * 2) (by omega)
      have d1 := hown2.cellAt (k * 2 + 1) (by omega)
      rw [List.getElem?_eq_getElem (by omega)] at d0 d1
      have f0 := hown2.frozenAt (k * 2)
      have f1 := hown2.frozenAt (k * 2 + 1)
      have o1 := (hown2.stored (k * 2) (.bool s2)).1
      have o2 := (o1.stored (k * 2 + 1) (.slice Au l2.length cu)).1
      have hB2 := from_ hbel hb3
      have hB3 := (hB2.setCell (p := ⟨w.heap.size, k * 2, none⟩) (Nat.le_refl _) (.bool s2)).setCell (p := ⟨w.heap.size, k * 2 + 1, none⟩) (Nat.le_refl _) (.slice Au l2.length cu)
      have hgt3 : w.heap.size < ((w2.setCell ⟨w.heap.size, k * 2, none⟩ (.bool s2)).setCell ⟨w.heap.size, k * 2 + 1, none⟩ (.slice Au l2.length cu)).heap.size := by
        have := hb3.size
        simp [World.setCell]
        omega
      have HP := Lib.hid hP
      have HO := Lib.hid o2
      have HB := Lib.hid hB3
      clear hP o1 o2 hu' hub hown2 hcells2 hcells hown hB2 hB3 hb2 hb3 Hput
      generalize xs[k * 2] = x0 at *
      generalize xs[k * 2 + 1] = x1 at *
      go_wp2
      go_roundw
      case rel => exact ⟨k + 1, _, by omega, by go_num, HO.out, HP, HB.out, hgt3⟩
      case measure => simp [intOf]; omega
    · obtain rfl : n = k := by omega
      have hnn := Hn'.out
      have hfin : VecAt wr (new w.heap.size) (some ⟨w.heap.size, 0, none⟩) n qs := by
        have h1 := hcells.out
        rw [← hnn] at h1 hown ⊢
        exact h1.fin hown hgt (Nat.le_refl _) (by omega)
      have Hfin := Lib.hid hfin
      clear hfin hcells hown
      go_wp2
      go_ret
      rw [Hn'.out]
      exact ⟨_, _, rfl, Hfin.out, hbel⟩

set_option maxRecDepth 100000 in
set_option maxHeartbeats 2000000 in
theorem veach_prime {w : World} {Z : Zone} {A : Option Addr} {c : Nat} {ps qs : List (Bool × List Nat)} {p0 : Addr} (ha : VecAt w Z A c ps) (hq : qs.length = ps.length) (hl : ps.length ≤ 100000)
    (hF : ∀ j (hj : j < ps.length) (hj' : j < qs.length) (w1 : World) B d, Below w.heap.size w w1 → U64s w1 Z B d ps[j].2 → Calls Tryz.prog 45 #[.int .i64 (j : Int), .agg #[.bool ps[j].1, .slice B ps[j].2.length d], .pointer (some p0)] w1 fun e w' => ∃ A c, e = .returned (.agg #[.bool qs[j].1, .slice A qs[j].2.length c]) ∧ U64s w' (new w1.heap.size) A c qs[j].2 ∧ Below w1.heap.size w1 w') :
    Calls Tryz.prog 34 #[.slice A ps.length c, .func (.func 45) #[] #[.pointer (some p0)]] w fun e w' => ∃ Av cv, e = .returned (.slice Av qs.length cv) ∧ VecAt w' (new w.heap.size) Av cv qs ∧ Below w.heap.size w w' := by
  obtain ⟨i0, hi, hz0, hz1, hz2⟩ := info_parts infoI
  obtain ⟨n, hn⟩ : ∃ n, n = ps.length := ⟨_, rfl⟩
  have hn' : qs.length = n := by omega
  have HF := Lib.hid hF
  have hmx := ha.max
  have hcp := ha.cap
  rw [← hn] at hl hcp ⊢
  have Hn := Lib.hid hn
  have Hn' := Lib.hid hn'
  clear hF hq hn hn'
  go_enter Tryz.func34, Tryz.ntmps34
  go_wp2_with (at_make; go_loud (refine wpList_make_full _ rfl _ _ 23 rfl w.heap.size 27 i0 (.agg #[.bool false, .slice none 0 0]) 2 Tryz.underlying23 hi hz0 hz1 .i64 .i64 _ _ n rfl rfl rfl rfl (by rw [hz2]; omega) (by simp only [maxLen]; omega) (Nat.le_refl _) ?_); intro w1 hown hgrow)
  have hb1 : Below w.heap.size w w1 := (Below.refl _ w).grown hgrow (Nat.le_refl _) (fun k h => by cases h)
  generalize (madeCells (Value.agg #[.bool false, .slice none 0 0]).cells (n * 2)).toList = xs0 at hown
  clear hgrow
  go_wp2
  go_loopw [13] (fun i wr => ∃ (k : Nat) (xs : List Value), k ≤ n ∧ i = .int .i64 (k : Int) ∧ wr.ownsRow w.heap.size 27 2 (.slice (some ⟨w.heap.size, 0, none⟩) n n) n xs ∧ Hid (CellsQ wr w.heap.size xs k qs) ∧ Below w.heap.size w wr ∧ w.heap.size < wr.heap.size) (fun i _ => n - (intOf i).toNat)
  case atStart => exact ⟨0, xs0, Nat.zero_le _, rfl, hown, fun j hj h => absurd h (by omega), hb1, (hown.lt _ rfl).2⟩
  case round =>
    clear hown hb1
    obtain ⟨k, xs, hk, rfl, hown, hcells, hbel, hgt⟩ := hrel
    by_cases hlt : k < n
    · have hkp : k < ps.length := by have := Hn.out; omega
      have hkq : k < qs.length := by have := Hn'.out; omega
      obtain ⟨b, o, B, d, rfl, hbb, c0, c1, hu⟩ := (ha.below hbel).at hkp
      have hxl := hown.1
      have hput := fun (w2 w' : World) (A2 : Option Addr) (c2 : Nat) (h1 : CellsQ w2 w.heap.size xs k qs) h2 h3 => h1.put (w' := w') (A := A2) (c := c2) (by have := Hn'.out; omega) hkq h2 h3
      have Hput := Lib.hid hput
      have hal : Below wr.heap.size wr (wr.alloc (.cells #[.bool ps[k].1, .slice B ps[k].2.length d] 27)) := (Below.refl _ _).alloc (Nat.le_refl _) _
      have hfk := HF.out k hkp hkq _ B d (from_ hbel hal) (by
        obtain ⟨b', o', B', d', e, _, _, c1', hu'⟩ := ha.at hkp
        injection e with e
        injection e with e1 e2
        subst e1 e2
        have h5 := (keepC hbel c1').symm.trans c1
        injection h5 with h5
        injection h5 with h6 h7 h8
        subst h6 h8
        exact (hu'.below hbel).below hal)
      have Hfk := Lib.hid hfk
      have Hal := Lib.hid hal
      clear hput hfk hal hu
      generalize ps[k].1 = s at *
      generalize ps[k].2 = l at *
      generalize qs[k].1 = s2 at *
      generalize qs[k].2 = l2 at *
      go_wp2_with fail
      refine Hfk.out.mono ?_
      rintro e w2 ⟨Au, cu, rfl, hu', hb2⟩
      have hb3 := from_ Hal.out hb2
      have hown2 := own_below hown hb3
      have hcells2 := hcells.out.keep (w' := w2) fun b _ hl => hb3.block b hl
      have hub := hu'.mono (Y := new (w.heap.size + 1)) (new_le (by have := Hal.out.size; omega))
      have hP := Hput.out w2 ((w2.setCell ⟨w.heap.size, k * 2, none⟩ (.bool s2)).setCell ⟨w.heap.size, k * 2 + 1, none⟩ (.slice Au l2.length cu)) Au cu hcells2 hub (fun b hb _ => by
        rw [Below.heap_setCell _ _ _ _ hb, Below.heap_setCell _ _ _ _ hb])
      have d0 := hown2.cellAt (k * 2) (by omega)
      have d1 := hown2.cellAt (k * 2 + 1) (by omega)
      rw [List.getElem?_eq_getElem (by omega)] at d0 d1
      have f0 := hown2.frozenAt (k * 2)
      have f1 := hown2.frozenAt (k * 2 + 1)
      have o1 := (hown2.stored (k * 2) (.bool s2)).1
      have o2 := (o1.stored (k * 2 + 1) (.slice Au l2.length cu)).1
      have hB2 := from_ hbel hb3
      have hB3 := (hB2.setCell (p := ⟨w.heap.size, k * 2, none⟩) (Nat.le_refl _) (.bool s2)).setCell (p := ⟨w.heap.size, k * 2 + 1, none⟩) (Nat.le_refl _) (.slice Au l2.length cu)
      have hgt3 : w.heap.size < ((w2.setCell ⟨w.heap.size, k * 2, none⟩ (.bool s2)).setCell ⟨w.heap.size, k * 2 + 1, none⟩ (.slice Au l2.length cu)).heap.size := by
        have := hb3.size
        simp [World.setCell]
        omega
      have HP := Lib.hid hP
      have HO := Lib.hid o2
      have HB := Lib.hid hB3
      clear hP o1 o2 hu' hub hown2 hcells2 hcells hown hB2 hB3 hb2 hb3 Hput
      generalize xs[k * 2] = x0 at *
      generalize xs[k * 2 + 1] = x1 at *
      go_wp2
      go_roundw
      case rel => exact ⟨k + 1, _, by omega, by go_num, HO.out, HP, HB.out, hgt3⟩
      case measure => simp [intOf]; omega
    · obtain rfl : n = k := by omega
      have hnn := Hn'.out
      have hfin : VecAt wr (new w.heap.size) (some ⟨w.heap.size, 0, none⟩) n qs := by
        have h1 := hcells.out
        rw [← hnn] at h1 hown ⊢
        exact h1.fin hown hgt (Nat.le_refl _) (by omega)
      have Hfin := Lib.hid hfin
      clear hfin hcells hown
      go_wp2
      go_ret
      rw [Hn'.out]
      exact ⟨_, _, rfl, Hfin.out, hbel⟩

theorem len_gcd (g x : Nat) : (limbs (Nat.gcd g x)).length ≤ max (limbs g).length (limbs x).length := by
  rcases Nat.eq_zero_or_pos g with rfl | h
  · rw [Nat.gcd_zero_left]
    omega
  · have := len_mono (Nat.le_of_dvd h (Nat.gcd_dvd_left g x))
    omega
def gcdK (xs : List Int) (k : Nat) : Nat := (xs.take k).foldl (fun g x => Nat.gcd g x.natAbs) 0
def gcdV (xs : List Int) : Nat := xs.foldl (fun g x => Nat.gcd g x.natAbs) 0
theorem gcdK_succ {xs : List Int} {k : Nat} (h : k < xs.length) : gcdK xs (k + 1) = Nat.gcd (gcdK xs k) (xs[k]).natAbs := by
  unfold gcdK
  rw [List.take_succ_eq_append_getElem h, List.foldl_append]
  rfl
theorem gcdK_all {xs : List Int} {k : Nat} (h : xs.length ≤ k) : gcdK xs k = gcdV xs := by
  unfold gcdK gcdV
  rw [List.take_of_length_le h]

set_option maxRecDepth 100000 in
set_option maxHeartbeats 1000000 in
theorem vtwin_any {w : World} {Z : Zone} {A : Option Addr} {c : Nat} {ps : List (Bool × List Nat)} (ha : VecAt w Z A c ps) (hl : ps.length ≤ 100000) (hK : ∀ p ∈ ps, p.2.length ≤ 100000) :
    Calls Tryz.prog 28 #[.slice A ps.length c] w fun e w' => ∃ Av cv, e = .returned (.slice Av ps.length cv) ∧ VecAt w' (new w.heap.size) Av cv ps ∧ Below w.heap.size w w' := by
  have hF := veach_twin (qs := ps) ha rfl hl (fun j hj hj' w1 B d hb hu => vtwin1 hu (hK ps[j] (List.getElem_mem hj)))
  have HF := Lib.hid hF
  clear hF ha hK
  generalize ps.length = L at *
  go_enter Tryz.func28, Tryz.ntmps28
  go_wp2_with fail
  refine HF.out.mono ?_
  rintro e w1 ⟨Av, cv, rfl, hv, hb1⟩
  have HV := Lib.hid hv
  clear hv
  go_wp2
  go_ret
  exact ⟨_, _, rfl, HV.out, hb1⟩

set_option maxRecDepth 100000 in
set_option maxHeartbeats 1000000 in
theorem vcontent_err {w : World} {Z : Zone} {A : Option Addr} {c : Nat} {ps : List (Bool × List Nat)} (ha : VecAt w Z A c ps) (hE : okV ps = false) :
    Calls Tryz.prog 14 #[.slice A ps.length c] w fun e w' => e = .returned (.tuple #[.slice none 0 0, .int .i64 8]) ∧ Below w.heap.size w w' := by
  have hal : Below w.heap.size w (w.alloc (.cells #[.slice A ps.length c] 23)) := (Below.refl _ _).alloc (Nat.le_refl _) _
  have hg := given_oneV (ty := 23) ha
  have hck := vchecked_any (n := 1) hg rfl (by simp) (by simp)
  have e1 : errV ps = 8 := by unfold errV; rw [hE]; rfl
  rw [errVs_one, e1] at hck
  have Hck := Lib.hid hck
  have Hal := Lib.hid hal
  clear hck hg hal ha hE e1
  generalize ps.length = n1 at *
  go_enter Tryz.func14, Tryz.ntmps14
  go_wp2_with fail
  refine Hck.out.mono ?_
  rintro e w1 ⟨rfl, hc1⟩
  have HB := Lib.hid (from_ Hal.out hc1)
  go_wp2
  go_ret2
  exact ⟨rfl, HB.out⟩

set_option maxRecDepth 100000 in
set_option maxHeartbeats 1000000 in
theorem vcontent_n {w : World} {Z : Zone} {A : Option Addr} {c K : Nat} {ps : List (Bool × List Nat)} {xs : List Int} (ha : VecAt w Z A c ps) (hx : NmV xs ps) (hl : ps.length ≤ 64) (hK1 : ∀ p ∈ ps, p.2.length ≤ K) (hK : K ≤ 20000) :
    Calls Tryz.prog 14 #[.slice A ps.length c] w fun e w' => ∃ v, e = .returned (.tuple #[v, .int .i64 0]) ∧ IsN w' (new w.heap.size) v (gcdV xs) ∧ Below w.heap.size w w' := by
  have hal : Below w.heap.size w (w.alloc (.cells #[.slice A ps.length c] 23)) := (Below.refl _ _).alloc (Nat.le_refl _) _
  have hg := given_oneV (ty := 23) ha
  have hck := vchecked_any (n := 1) hg rfl (by simp) (by simp)
  have e1 : errV ps = 0 := by unfold errV; rw [hx.okV hl]; rfl
  rw [errVs_one, e1] at hck
  have Hck := Lib.hid hck
  have Hal := Lib.hid hal
  obtain ⟨n, hn⟩ : ∃ n, n = ps.length := ⟨_, rfl⟩
  have hxl : xs.length = n := by rw [hx.len]; exact hn.symm
  rw [← hn] at Hck Hal hl ⊢
  have Hn := Lib.hid (show n = ps.length ∧ xs.length = n from ⟨hn, hxl⟩)
  clear hck hg hal e1 hn hxl
  go_enter Tryz.func14, Tryz.ntmps14
  go_wp2_with fail
  refine Hck.out.mono ?_
  rintro e w1 ⟨rfl, hc1⟩
  have hB1 := from_ Hal.out hc1
  clear Hal Hck hc1
  go_wp2
  go_loopw [2, 13] (fun v i wr => ∃ k : Nat, k ≤ n ∧ i = .int .i64 (k : Int) ∧ IsN wr (new w.heap.size) v (gcdK xs k) ∧ Hid ((limbs (gcdK xs k)).length ≤ K) ∧ Below w.heap.size w wr) (fun _ i _ => n - (intOf i).toNat)
  case atStart => exact ⟨0, Nat.zero_le _, rfl, IsN.zero _ _, (show (limbs 0).length ≤ K by rw [limbs_eq_nil.2 rfl]; simp), hB1⟩
  case round =>
    clear hB1
    obtain ⟨k, hk, rfl, hv, hlv, hbel⟩ := hrel
    by_cases hlt : k < n
    · obtain ⟨hn1, hn2⟩ := Hn.out
      have hkp : k < ps.length := by omega
      have hkx : k < xs.length := by omega
      obtain ⟨b, o, B1, d1, rfl, hbb, c0, c1, hu⟩ := (ha.below hbel).at hkp
      have na := hx.at k hkx hkp
      have hst := gcdK_succ hkx
      have hp1 := hK1 ps[k] (List.getElem_mem hkp)
      have hln := len_gcd (gcdK xs k) (xs[k]).natAbs
      rw [← hst] at hln
      have hal : Below wr.heap.size wr (wr.alloc (.cells #[.bool ps[k].1, .slice B1 ps[k].2.length d1] 27)) := (Below.refl _ _).alloc (Nat.le_refl _) _
      have hin : IsN (wr.alloc (.cells #[.bool ps[k].1, .slice B1 ps[k].2.length d1] 27)) Z (.slice B1 ps[k].2.length d1) (xs[k]).natAbs := by
        have h2 := hu.below hal
        unfold IsN
        rw [← na.2]
        exact ⟨B1, d1, rfl, h2⟩
      have hgd := gcd_good (hv.below hal) hin (by have := hlv.out; omega) (by rw [← na.2]; omega)
      rw [← hst] at hgd
      have hl2 : (limbs (gcdK xs (k + 1))).length ≤ K := by
        have := hlv.out
        rw [← na.2] at hln
        omega
      have Hgd := Lib.hid hgd
      have Hl2 := Lib.hid hl2
      have Hal := Lib.hid hal
      clear na hst hln hgd hl2 hin hu hlv hal hkx hn1 hn2
      generalize ps[k].1 = s at *
      generalize ps[k].2 = l at *
      go_wp2_with fail
      refine Hgd.out.mono ?_
      rintro e w2 ⟨v2, rfl, hv2, hb2⟩
      have hB2 := from_ hbel (from_ Hal.out hb2)
      have hv3 := Lib.hid (hv2.mono (Y := new w.heap.size) (new_le (by have := hbel.size; have := Hal.out.size; omega)))
      clear hv2
      go_wp2
      go_roundw
      case rel => exact ⟨k + 1, by omega, by go_num, hv3.out, Hl2, hB2⟩
      case measure => simp [intOf] <;> omega
    · obtain rfl : n = k := by omega
      rw [gcdK_all (by have := Hn.out.2; omega)] at hv
      have HV := Lib.hid hv
      clear hv hlv
      go_wp2
      go_ret2
      exact ⟨_, rfl, HV.out, hbel⟩

end Go.Proofs.YtdhgjkihghndiaaGreat

namespace Go.Proofs.YtdhgjkihghndiaaGreat
open Go.RowKit
set_option linter.unusedVariables false
set_option linter.unusedSimpArgs false

theorem exactV_n {w : World} {Z1 Z2 : Zone} {x y z : Int} {s t r : Bool} {l k m : List Nat} {A B : Option Addr} {c d : Nat} (h1 : Nm x s l) (h2 : Nm y t k) (h3 : Nm z r m) (hz : tq x y = z) (hy : y ≠ 0) (h0 : x.natAbs % y.natAbs = 0) (hl : l.length ≤ 10000) (u1 : U64s w Z1 A c l) (u2 : U64s w Z2 B d k) :
    Calls Tryz.prog 46 #[.agg #[.bool s, .slice A l.length c], .agg #[.bool t, .slice B k.length d]] w fun e w' => ∃ Av cv, e = .returned (.tuple #[.agg #[.bool r, .slice Av m.length cv], .int .i64 0]) ∧ U64s w' (new w.heap.size) Av cv m ∧ Below w.heap.size w w' := by
  refine (wexact_yes (h1.isZ u1) (h2.isZ u2) hy (by rw [← h1.len]; exact hl) h0).mono ?_
  rintro e w' ⟨v, rfl, hv, hb⟩
  rw [hz] at hv
  obtain ⟨Av, cv, rfl, hu⟩ := h3.of hv
  exact ⟨Av, cv, rfl, hu, hb⟩

set_option maxRecDepth 100000 in
set_option maxHeartbeats 1000000 in
theorem vprime1 {w : World} {Z1 Z2 : Zone} {x y z : Int} {s r : Bool} {l k m : List Nat} {A B : Option Addr} {c d g ix : Nat} (e0 : w.cell? ⟨g, 0, none⟩ = some (.slice B k.length d)) (h1 : Nm x s l) (h2 : Nm y false k) (h3 : Nm z r m) (hz : tq x y = z) (hy : y ≠ 0) (h0 : x.natAbs % y.natAbs = 0) (hl : l.length ≤ 10000) (u1 : U64s w Z1 A c l) (u2 : U64s w Z2 B d k) :
    Calls Tryz.prog 45 #[.int .i64 (ix : Int), .agg #[.bool s, .slice A l.length c], .pointer (some ⟨g, 0, none⟩)] w fun e w' => ∃ Av cv, e = .returned (.agg #[.bool r, .slice Av m.length cv]) ∧ U64s w' (new w.heap.size) Av cv m ∧ Below w.heap.size w w' := by
  obtain ⟨bA, bR, hB0⟩ := boxes2 w (.bool s) (.slice A l.length c) (.bool false) (.slice none 0 0) 27
  obtain ⟨a0, a1, _, _, _⟩ := bA
  have hg : g < w.heap.size := lt_of_cell e0
  replace e0 := keepC hB0 e0
  have C0 := Lib.hid (exactV_n h1 h2 h3 hz hy h0 hl (u1.below hB0) (u2.below hB0))
  have HB := Lib.hid hB0
  clear h1 h2 h3 hz hy h0 hl u1 u2 hB0
  generalize l.length = L at *
  generalize k.length = K at *
  go_enter Tryz.func45, Tryz.ntmps45
  go_wp2_with fail
  refine C0.out.mono ?_
  rintro e w1 ⟨Av, cv, rfl, hv, hc1⟩
  have bRw := bR.below hc1
  have hBw := from_ HB.out hc1
  have hP := bRw.put hBw (by omega) (.bool r) (.slice Av m.length cv)
  have hiv : IsU w1 _ (.slice Av m.length cv) m := ⟨Av, cv, rfl, hv⟩
  have hu2 := (hP.keep (by simp <;> omega) hiv).below ((Below.refl _ _).alloc (Nat.le_refl _) (.cells #[.bool r, .slice Av m.length cv] 27))
  have hbx := hP.box.alloc (.cells #[.bool r, .slice Av m.length cv] 27)
  have hbl := hP.bel.alloc hP.bel.size (.cells #[.bool r, .slice Av m.length cv] 27)
  have Hu := Lib.hid hu2
  have Hbx := Lib.hid hbx
  have Hbl := Lib.hid hbl
  have hz2 : w.heap.size + 1 < w1.heap.size := bRw.lt
  have hne : ¬ (w1.heap.size = w.heap.size + 1) := by omega
  have hne2 : ¬ (w.heap.size + 1 = w1.heap.size) := by omega
  obtain ⟨q0, q1, f0, f1, _⟩ := bRw
  clear hP hbx hbl hu2 hiv hv hBw bR hc1
  go_wp2
  refine bodyPost_ret (res_int rfl _ (w.heap.size + 1) rfl Hbx.out.c0 Hbx.out.c1) rfl ?_
  obtain ⟨A', c', e', h'⟩ := Hu.out
  injection e' with e1 e2 e3
  subst e1 e3
  exact ⟨_, _, rfl, h', Hbl.out⟩

theorem tq_abs (x : Int) (g : Nat) : (tq x (g : Int)).natAbs = x.natAbs / g := by
  unfold tq
  rw [Int.natAbs_natCast]
  split
  · exact Int.natAbs_natCast _
  · rw [Int.natAbs_neg]; exact Int.natAbs_natCast _
theorem tq_back {x : Int} {g : Nat} (hg : g ≠ 0) (h : x.natAbs % g = 0) : tq x (g : Int) * (g : Int) = x := by
  have h1 := Nat.div_add_mod x.natAbs g
  rw [h, Nat.add_zero] at h1
  unfold tq
  rw [Int.natAbs_natCast]
  have hz : decide ((g : Int) < 0) = false := decide_eq_false (by omega)
  rw [hz]
  have h2 : ((x.natAbs / g : Nat) : Int) * (g : Int) = ((x.natAbs : Nat) : Int) := by
    rw [← Int.natCast_mul, Nat.mul_comm, h1]
  by_cases hx : x < 0
  · rw [if_neg (by simp [hx]), Int.neg_mul, h2]
    omega
  · rw [if_pos (by simp; omega), h2]
    omega

theorem gcdF_dvd : ∀ (xs : List Int) (g0 : Nat), (xs.foldl (fun g x => Nat.gcd g x.natAbs) g0 ∣ g0) ∧ ∀ x ∈ xs, xs.foldl (fun g x => Nat.gcd g x.natAbs) g0 ∣ x.natAbs := by
  intro xs
  induction xs with
  | nil => exact fun g0 => ⟨Nat.dvd_refl _, fun x hx => absurd hx (by simp)⟩
  | cons x xs ih =>
    intro g0
    obtain ⟨h1, h2⟩ := ih (Nat.gcd g0 x.natAbs)
    refine ⟨Nat.dvd_trans h1 (Nat.gcd_dvd_left _ _), fun y hy => ?_⟩
    rcases List.mem_cons.1 hy with rfl | hy
    · exact Nat.dvd_trans h1 (Nat.gcd_dvd_right _ _)
    · exact h2 y hy
theorem gcdF_mul (k : Nat) : ∀ (xs ys : List Int) (g0 : Nat), ys.map Int.natAbs = xs.map (fun x => x.natAbs * k) → ys.foldl (fun g x => Nat.gcd g x.natAbs) (g0 * k) = xs.foldl (fun g x => Nat.gcd g x.natAbs) g0 * k := by
  intro xs
  induction xs with
  | nil => intro ys g0 h; cases ys with
    | nil => rfl
    | cons y ys => simp at h
  | cons x xs ih =>
    intro ys g0 h
    cases ys with
    | nil => simp at h
    | cons y ys =>
      simp only [List.map_cons, List.cons.injEq] at h
      simp only [List.foldl_cons]
      rw [h.1, Nat.gcd_mul_right]
      exact ih ys _ h.2
theorem gcdV_mul {k : Nat} {xs ys : List Int} (h : ys.map Int.natAbs = xs.map (fun x => x.natAbs * k)) : gcdV ys = gcdV xs * k := by
  have := gcdF_mul k xs ys 0 h
  rw [Nat.zero_mul] at this
  exact this
theorem gcdV_dvd {xs : List Int} {x : Int} (h : x ∈ xs) : gcdV xs ∣ x.natAbs := (gcdF_dvd xs 0).2 x h
theorem gcdV_zero {xs : List Int} : gcdV xs = 0 ↔ ∀ x ∈ xs, x = 0 := by
  constructor
  · intro h x hx
    have := gcdV_dvd hx
    rw [h] at this
    have := Nat.eq_zero_of_zero_dvd this
    omega
  · intro h
    have h2 := gcdV_mul (k := 0) (xs := xs) (ys := xs) (List.map_congr_left fun x hx => by rw [h x hx]; rfl)
    rw [Nat.mul_zero] at h2
    exact h2
theorem gcdV_low {xs : List Int} (hg : gcdV xs ≠ 0) : gcdV (xs.map fun x => tq x (gcdV xs : Int)) = 1 := by
  have h := gcdV_mul (k := gcdV xs) (xs := xs.map fun x => tq x (gcdV xs : Int)) (ys := xs) (by
    rw [List.map_map]
    refine List.map_congr_left fun x hx => ?_
    show x.natAbs = (tq x (gcdV xs : Int)).natAbs * gcdV xs
    rw [tq_abs, Nat.div_mul_cancel (gcdV_dvd hx)])
  have h2 : 1 * gcdV xs = gcdV (xs.map fun x => tq x (gcdV xs : Int)) * gcdV xs := by rw [Nat.one_mul]; exact h
  exact (Nat.eq_of_mul_eq_mul_right (Nat.pos_of_ne_zero hg) h2).symm

/-- What Prime answers. -/
def lowV (xs : List Int) : List Int := if gcdV xs = 0 then xs else xs.map fun x => tq x (gcdV xs : Int)
theorem lowV_length (xs : List Int) : (lowV xs).length = xs.length := by unfold lowV; split <;> simp
theorem lowV_back (xs : List Int) : (lowV xs).map (fun x => x * (gcdV xs : Int)) = xs := by
  unfold lowV
  by_cases hg : gcdV xs = 0
  · rw [if_pos hg, hg]
    refine (List.map_congr_left fun x hx => ?_).trans (List.map_id xs)
    rw [gcdV_zero.1 hg x hx]
    rfl
  · rw [if_neg hg, List.map_map]
    refine (List.map_congr_left fun x hx => ?_).trans (List.map_id xs)
    exact tq_back hg (Nat.mod_eq_zero_of_dvd (gcdV_dvd hx))
theorem tq_mul {x n : Int} {g : Nat} (hg : g ≠ 0) (hn : n ≠ 0) (h : g ∣ x.natAbs) : tq (x * n) ((g * n.natAbs : Nat) : Int) = tq x (g : Int) * sgn n := by
  have hgn : g * n.natAbs ≠ 0 := by
    intro h0
    rcases Nat.mul_eq_zero.1 h0 with h1 | h1 <;> omega
  have h1 := tq_back (x := x * n) hgn (by rw [Int.natAbs_mul]; exact Nat.mod_eq_zero_of_dvd (Nat.mul_dvd_mul_right h _))
  have h2 := tq_back (x := x) hg (Nat.mod_eq_zero_of_dvd h)
  have h3 : sgn n * (n.natAbs : Int) = n := by
    unfold sgn
    rw [if_neg hn]
    split <;> omega
  have h4 : tq x (g : Int) * sgn n * ((g * n.natAbs : Nat) : Int) = x * n := by
    rw [Int.natCast_mul, Int.mul_assoc, Int.mul_left_comm (sgn n), h3, ← Int.mul_assoc, h2]
  exact Int.eq_of_mul_eq_mul_right (by omega) (h1.trans h4.symm)
theorem lowV_scale (xs : List Int) (n : Int) : lowV (xs.map fun x => x * n) = (lowV xs).map fun x => x * sgn n := by
  have hg := gcdV_mul (k := n.natAbs) (xs := xs) (ys := xs.map fun x => x * n) (by
    rw [List.map_map]
    exact List.map_congr_left fun x _ => Int.natAbs_mul x n)
  by_cases hn : n = 0
  · subst hn
    have e : gcdV (xs.map fun x => x * 0) = 0 := by rw [hg]; simp
    unfold lowV
    rw [if_pos e]
    have hs : sgn 0 = 0 := by unfold sgn; rw [if_pos rfl]
    rw [hs]
    by_cases h0 : gcdV xs = 0
    · rw [if_pos h0]
    · rw [if_neg h0, List.map_map]
      exact List.map_congr_left fun x _ => by simp
  · by_cases h0 : gcdV xs = 0
    · have e : gcdV (xs.map fun x => x * n) = 0 := by rw [hg, h0, Nat.zero_mul]
      unfold lowV
      rw [if_pos e, if_pos h0]
      exact List.map_congr_left fun x hx => by rw [gcdV_zero.1 h0 x hx]; simp
    · have e : gcdV (xs.map fun x => x * n) ≠ 0 := by
        rw [hg]
        intro h
        rcases Nat.mul_eq_zero.1 h with h | h <;> omega
      unfold lowV
      rw [if_neg e, if_neg h0, List.map_map, List.map_map, hg]
      exact List.map_congr_left fun x hx => tq_mul h0 hn (gcdV_dvd hx)

set_option maxRecDepth 100000 in
set_option maxHeartbeats 1000000 in
theorem vprime_err {w : World} {Z : Zone} {A : Option Addr} {c : Nat} {ps : List (Bool × List Nat)} (ha : VecAt w Z A c ps) (hE : okV ps = false) :
    Calls Tryz.prog 16 #[.slice A ps.length c] w fun e w' => e = .returned (.tuple #[.slice none 0 0, .int .i64 8]) ∧ Below w.heap.size w w' := by
  have Hc := Lib.hid (vcontent_err ha hE)
  clear ha hE
  generalize ps.length = L at *
  go_enter Tryz.func16, Tryz.ntmps16
  go_wp2_with fail
  refine Hc.out.mono ?_
  rintro e w1 ⟨rfl, hb1⟩
  have hB1 := hb1.alloc hb1.size (.cells #[.slice none 0 0] 25)
  go_wp2
  go_ret2
  exact ⟨rfl, hB1⟩

set_option maxRecDepth 100000 in
set_option maxHeartbeats 1000000 in
theorem vprime_n {w : World} {Z : Zone} {A : Option Addr} {c K : Nat} {ps rs : List (Bool × List Nat)} {xs : List Int} (ha : VecAt w Z A c ps) (hx : NmV xs ps) (hl : ps.length ≤ 64) (hK1 : ∀ p ∈ ps, p.2.length ≤ K) (hK : K ≤ 10000) (h3 : NmV (lowV xs) rs) :
    Calls Tryz.prog 16 #[.slice A ps.length c] w fun e w' => ∃ Av cv, e = .returned (.tuple #[.slice Av rs.length cv, .int .i64 0]) ∧ VecAt w' (new w.heap.size) Av cv rs ∧ Below w.heap.size w w' := by
  have Hc := Lib.hid (vcontent_n ha hx hl hK1 (by omega))
  have hrl : rs.length = ps.length := by rw [← h3.len, lowV_length, hx.len]
  by_cases hg : gcdV xs = 0
  · have hrs : rs = ps := by
      have h1 : rs = _ := h3
      have h2 : ps = _ := hx
      rw [h1, h2]
      unfold lowV
      rw [if_pos hg]
    subst hrs
    have e0 : limbs 0 = [] := limbs_eq_nil.2 rfl
    rw [hg] at Hc
    have ht := fun (w1 : World) (h : Below w.heap.size w w1) => vtwin_any (ha.below h) (by omega) (fun p hp => Nat.le_trans (hK1 p hp) (by omega))
    have Ht := Lib.hid ht
    clear ht ha hx hK1 h3 hrl hg
    generalize hL : rs.length = L at *
    clear hL
    go_enter Tryz.func16, Tryz.ntmps16
    go_wp2_with fail
    refine Hc.out.mono ?_
    rintro e w1 ⟨_, rfl, hv, hb1⟩
    obtain ⟨Ac, cc, rfl, hu⟩ := hv
    rw [e0]
    have p0 := cell1 w1 (.slice Ac ([] : List Nat).length cc) 25
    have hB1 := hb1.alloc hb1.size (.cells #[.slice Ac ([] : List Nat).length cc] 25)
    rw [List.length_nil] at p0 hB1 ⊢
    go_wp2_with fail
    refine (Ht.out _ hB1).mono ?_
    rintro e w2 ⟨Av, cv, rfl, hv, hb2⟩
    have hB2 := from_ hB1 hb2
    have HV := Lib.hid (hv.mono (Y := new w.heap.size) (new_le hB1.size))
    clear hv
    go_wp2
    go_ret2
    exact ⟨_, _, rfl, HV.out, hB2⟩
  · obtain ⟨k, hk⟩ : ∃ k, k = limbs (gcdV xs) := ⟨_, rfl⟩
    have hkl : 0 < k.length := by rw [hk]; exact len_pos.2 hg
    have hnk : Nm ((gcdV xs : Nat) : Int) false k := ⟨(decide_eq_false (by omega)).symm, by rw [hk, Int.natAbs_natCast]⟩
    have hrs : NmV (xs.map fun x => tq x (gcdV xs : Int)) rs := by
      unfold lowV at h3
      rwa [if_neg hg] at h3
    have hF : ∀ (w1 : World) (g : Nat) (B : Option Addr) (d : Nat), Below w.heap.size w w1 → w1.cell? ⟨g, 0, none⟩ = some (.slice B k.length d) → U64s w1 old B d k → Calls Tryz.prog 34 #[.slice A ps.length c, .func (.func 45) #[] #[.pointer (some ⟨g, 0, none⟩)]] w1 fun e w' => ∃ Av cv, e = .returned (.slice Av rs.length cv) ∧ VecAt w' (new w1.heap.size) Av cv rs ∧ Below w1.heap.size w1 w' := fun w1 g B d hb1 hp hu0 => by
      refine veach_prime (ha.below hb1) hrl (by omega) fun j hj hj' w2 B' d' hb2 hu => ?_
      have hjx : j < xs.length := by rw [hx.len]; exact hj
      have h1 := hx.at j hjx hj
      have h4 := hrs.at j (by rw [hrs.len]; exact hj') hj'
      rw [List.getElem_map] at h4
      have q1 := hK1 ps[j] (List.getElem_mem hj)
      exact vprime1 (keepC hb2 hp) h1 hnk h4 rfl (by omega) (by rw [Int.natAbs_natCast]; exact Nat.mod_eq_zero_of_dvd (gcdV_dvd (List.getElem_mem hjx))) (by omega) hu (hu0.below hb2)
    have HF := Lib.hid hF
    have Hk := Lib.hid hk
    clear hF ha hx hK1 h3 hrs hnk hk
    rw [hrl] at HF ⊢
    clear hrl
    generalize ps.length = L at *
    have z1 : ((k.length : Int) == 0) = false := beq_eq_false_iff_ne.2 (by omega)
    go_enter Tryz.func16, Tryz.ntmps16
    go_wp2_with fail
    refine Hc.out.mono ?_
    rintro e w1 ⟨_, rfl, hv, hb1⟩
    unfold IsN at hv
    rw [← Hk.out] at hv
    obtain ⟨Ac, cc, rfl, hu⟩ := hv
    have p0 := cell1 w1 (.slice Ac k.length cc) 25
    have hal : Below w1.heap.size w1 (w1.alloc (.cells #[.slice Ac k.length cc] 25)) := (Below.refl _ _).alloc (Nat.le_refl _) _
    have hB1 := from_ hb1 hal
    have hu1 := Lib.hid ((hu.mono (le_old _)).below hal)
    clear hu hal
    go_wp2_with fail
    refine (HF.out _ _ _ _ hB1 p0 hu1.out).mono ?_
    rintro e w2 ⟨Av, cv, rfl, hv, hb2⟩
    have hB2 := from_ hB1 hb2
    have HV := Lib.hid (hv.mono (Y := new w.heap.size) (new_le hB1.size))
    clear hv
    go_wp2
    go_ret2
    exact ⟨_, _, rfl, HV.out, hB2⟩

end Go.Proofs.YtdhgjkihghndiaaGreat

namespace Go.Proofs.YtdhgjkihghndiaaGreat
open Go.RowKit
set_option linter.unusedVariables false
set_option linter.unusedSimpArgs false

/-- The document's words for a quotient rounded down. -/
theorem down_case {x y : Int} (hy : y ≠ 0) :
    (decide (x < 0) = decide (y < 0) ∧ rq x y true = ((x.natAbs / y.natAbs : Nat) : Int)) ∨
    (decide (x < 0) ≠ decide (y < 0) ∧ x.natAbs % y.natAbs = 0 ∧ rq x y true = -((x.natAbs / y.natAbs : Nat) : Int)) ∨
    (decide (x < 0) ≠ decide (y < 0) ∧ x.natAbs % y.natAbs ≠ 0 ∧ rq x y true = -((x.natAbs / y.natAbs + 1 : Nat) : Int)) := by
  by_cases hs : decide (x < 0) = decide (y < 0)
  · left
    refine ⟨hs, ?_⟩
    unfold rq tq
    rw [hs]
    simp
  · right
    have hb : (decide (x < 0) != decide (y < 0)) = true := by simpa using hs
    by_cases h0 : x.natAbs % y.natAbs = 0
    · left
      refine ⟨hs, h0, ?_⟩
      have hz : decide (0 < (limbs (x.natAbs % y.natAbs)).length) = false := decide_eq_false (by rw [len_pos]; omega)
      unfold rq tq
      rw [hz, if_neg hs]
      simp
    · right
      refine ⟨hs, h0, ?_⟩
      have hz : decide (0 < (limbs (x.natAbs % y.natAbs)).length) = true := decide_eq_true (by rw [len_pos]; omega)
      unfold rq tq
      rw [hz, hb, if_neg hs]
      simp
      omega
theorem nm_nat (n : Nat) : Nm (n : Int) false (limbs n) := ⟨(decide_eq_false (by omega)).symm, by rw [Int.natAbs_natCast]⟩
theorem nm_minus (n : Nat) : Nm (-(n : Int)) (decide (0 < (limbs n).length)) (limbs n) := by
  refine ⟨?_, by rw [Int.natAbs_neg, Int.natAbs_natCast]⟩
  rw [decide_eq_decide, len_pos]
  omega

theorem Nm.isN {x : Int} {s : Bool} {l : List Nat} (h : Nm x s l) {w : World} {Z : Zone} {A : Option Addr} {c : Nat} (hu : U64s w Z A c l) : IsN w Z (.slice A l.length c) x.natAbs := by
  obtain ⟨rfl, rfl⟩ := h
  exact ⟨A, c, rfl, hu⟩
theorem Nm.uniq {x : Int} {s t : Bool} {l k : List Nat} (h : Nm x s l) (h' : Nm x t k) : s = t ∧ l = k := ⟨h.1.trans h'.1.symm, h.2.trans h'.2.symm⟩


theorem two_err {s t : Bool} {l k : List Nat} (h : ¬ (okI s l = true ∧ okI t k = true)) : errO s l t k = 8 := by unfold errO; rw [if_neg h]
theorem two_ok {s t : Bool} {l k : List Nat} (h : okI s l = true ∧ okI t k = true) : errO s l t k = 0 := by unfold errO; rw [if_pos h]
theorem nm_len {x : Int} {s : Bool} {l : List Nat} (h : Nm x s l) (n : Nat) (hl : l.length ≤ n) : (limbs x.natAbs).length ≤ n := by rw [← h.len]; exact hl

theorem r5turned_v {w : World} {Z1 : Zone} {x z : Int} {s r : Bool} {l m : List Nat} {A : Option Addr} {c : Nat} (h1 : Nm x s l) (h3 : Nm z r m) (hz : -x = z) (hl : l.length ≤ 10000) (u1 : U64s w Z1 A c l) :
    Calls Tryz.prog 100 #[.agg #[.bool s, .slice A l.length c]] w fun e w' => ∃ Av cv, e = .returned (.agg #[.bool r, .slice Av m.length cv]) ∧ U64s w' (new w.heap.size) Av cv m ∧ Below w.heap.size w w' := by
  subst hz
  refine (r5turned_good (h1.isZ u1) (nm_len h1 _ hl)).mono ?_
  rintro e w' ⟨Bv, dv, rfl, hv, hb⟩
  obtain ⟨Av, cv, e2, hu⟩ := h3.of hv
  rw [e2]
  exact ⟨Av, cv, rfl, hu, hb⟩
theorem r5times_v {w : World} {Z1 Z2 : Zone} {x y z : Int} {s t r : Bool} {l k m : List Nat} {A B : Option Addr} {c d : Nat} (h1 : Nm x s l) (h2 : Nm y t k) (h3 : Nm z r m) (hz : x * y = z) (hl : l.length ≤ 90000) (hl2 : k.length ≤ 90000) (u1 : U64s w Z1 A c l) (u2 : U64s w Z2 B d k) :
    Calls Tryz.prog 62 #[.agg #[.bool s, .slice A l.length c], .agg #[.bool t, .slice B k.length d]] w fun e w' => ∃ Av cv, e = .returned (.agg #[.bool r, .slice Av m.length cv]) ∧ U64s w' (new w.heap.size) Av cv m ∧ Below w.heap.size w w' := by
  have o1 : okI s l = true := by obtain ⟨rfl, rfl⟩ := h1; exact IsZ.ok x
  have o2 : okI t k = true := by obtain ⟨rfl, rfl⟩ := h2; exact IsZ.ok y
  have e1 : zof s l = x := by
    have n1 := Nm.ok o1 u1.small
    have h4 : decide (zof s l < 0) = decide (x < 0) := n1.1.symm.trans h1.1
    have h5 : (zof s l).natAbs = x.natAbs := limbs_inj (n1.2.symm.trans h1.2)
    have h6 := decide_eq_decide.1 h4
    omega
  have e2 : zof t k = y := by
    have n1 := Nm.ok o2 u2.small
    have h4 : decide (zof t k < 0) = decide (y < 0) := n1.1.symm.trans h2.1
    have h5 : (zof t k).natAbs = y.natAbs := limbs_inj (n1.2.symm.trans h2.2)
    have h6 := decide_eq_decide.1 h4
    omega
  refine (r5times_good ⟨_, rfl, A, c, rfl, u1⟩ ⟨_, rfl, B, d, rfl, u2⟩ o1 o2 hl hl2).mono ?_
  rintro e w' ⟨v, rfl, hv, hb⟩
  rw [e1, e2, hz] at hv
  obtain ⟨Av, cv, rfl, hu⟩ := h3.of hv
  exact ⟨Av, cv, rfl, hu, hb⟩
theorem r5compared_w {w : World} {Z1 Z2 : Zone} {x y g : Int} {s t : Bool} {l k : List Nat} {A B : Option Addr} {c d : Nat} (h1 : Nm x s l) (h2 : Nm y t k) (hg : sgn (x - y) = g) (hl : l.length ≤ 9000) (hl2 : k.length ≤ 9000) (u1 : U64s w Z1 A c l) (u2 : U64s w Z2 B d k) :
    Calls Tryz.prog 73 #[.agg #[.bool s, .slice A l.length c], .agg #[.bool t, .slice B k.length d]] w fun e w' => e = .returned (.int .i64 g) ∧ Below w.heap.size w w' := by
  subst hg
  exact r5compared_good (h1.isZ u1) (h2.isZ u2) (nm_len h1 _ hl) (nm_len h2 _ hl2)

end Go.Proofs.YtdhgjkihghndiaaGreat

namespace Go.Proofs.YtdhgjkihghndiaaGreat
open Go.RowKit
set_option linter.unusedVariables false
set_option linter.unusedSimpArgs false

set_option maxRecDepth 100000 in
set_option maxHeartbeats 1000000 in
theorem r7check_any {w : World} {Z : Zone} {A : Option Addr} {c : Nat} {ps : List (Bool × List Nat)} (ha : VecAt w Z A c ps) :
    Calls Tryz.prog 24 #[.slice A ps.length c] w fun e w' => e = .returned (.int .i64 (errV ps)) ∧ Below w.heap.size w w' := by
  have hM := r7may_any ha
  have eV : errV ps = if okV ps = true then 0 else 8 := rfl
  cases o : okV ps
  all_goals
    rw [o] at hM eV
    simp at eV
    rw [eV]
    have HM := Lib.hid hM
    have hl := ha.len
    clear hM eV o ha
    generalize ps.length = n at *
    go_enter Tryz.func24, Tryz.ntmps24
    go_wp2_with fail
    refine HM.out.mono ?_
    rintro e w1 ⟨rfl, hc⟩
    go_wp2
    go_ret
    exact ⟨by first | rfl | simp, hc⟩

set_option maxRecDepth 100000 in
set_option maxHeartbeats 1000000 in
theorem r7two_any {w : World} {Z Y : Zone} {A B : Option Addr} {c d : Nat} {ps qs : List (Bool × List Nat)} (ha : VecAt w Z A c ps) (hb : VecAt w Y B d qs) :
    Calls Tryz.prog 32 #[.slice A ps.length c, .slice B qs.length d] w fun e w' => e = .returned (.int .i64 (errVs [ps, qs])) ∧ Below w.heap.size w w' := by
  have hM1 := r7may_any ha
  have hM2 : Hid (∀ W, Below w.heap.size w W → Calls Tryz.prog 40 #[.slice B qs.length d] W fun e w' => e = .returned (.bool (okV qs)) ∧ Below W.heap.size W w') := fun W h => r7may_any (hb.below h)
  have hcase : (okV ps = false ∧ errVs [ps, qs] = 8) ∨ (okV ps = true ∧ okV qs = false ∧ errVs [ps, qs] = 8) ∨ (okV ps = true ∧ okV qs = true ∧ decide (ps.length = qs.length) = true ∧ errVs [ps, qs] = 0) ∨ (okV ps = true ∧ okV qs = true ∧ decide (ps.length = qs.length) = false ∧ errVs [ps, qs] = 70) := by
    rw [errVs_two]
    cases okV ps <;> cases okV qs <;> by_cases h : ps.length = qs.length <;> simp [h]
  have hla := ha.len
  have hlb := hb.len
  generalize errVs [ps, qs] = E at *
  generalize okV ps = o1 at *
  generalize okV qs = o2 at *
  clear ha hb
  have HM1 := Lib.hid hM1
  clear hM1
  generalize ps.length = n at *
  generalize qs.length = m at *
  rcases hcase with ⟨rfl, rfl⟩ | ⟨rfl, rfl, rfl⟩ | ⟨rfl, rfl, hd, rfl⟩ | ⟨rfl, rfl, hd, rfl⟩
  · go_enter Tryz.func32, Tryz.ntmps32
    go_wp2_with fail
    refine HM1.out.mono ?_
    rintro e w1 ⟨rfl, hc⟩
    go_wp2
    go_ret
    exact ⟨rfl, hc⟩
  · go_enter Tryz.func32, Tryz.ntmps32
    go_wp2_with fail
    refine HM1.out.mono ?_
    rintro e w1 ⟨rfl, hc⟩
    go_wp2_with fail
    refine (hM2.out _ hc).mono ?_
    rintro e w2 ⟨rfl, hc2⟩
    have hB := from_ hc hc2
    go_wp2
    go_ret
    exact ⟨rfl, hB⟩
  · have hnm : n = m := of_decide_eq_true hd
    subst hnm
    go_enter Tryz.func32, Tryz.ntmps32
    go_wp2_with fail
    refine HM1.out.mono ?_
    rintro e w1 ⟨rfl, hc⟩
    go_wp2_with fail
    refine (hM2.out _ hc).mono ?_
    rintro e w2 ⟨rfl, hc2⟩
    have hB := from_ hc hc2
    go_wp2
    go_ret
    exact ⟨rfl, hB⟩
  · have hnm : n ≠ m := of_decide_eq_false hd
    have hd2 : ((n : Int) == (m : Int)) = false := beq_eq_false_iff_ne.2 (by omega)
    have hd3 : ((n : Int) != (m : Int)) = true := by rw [bne, hd2]; rfl
    go_enter Tryz.func32, Tryz.ntmps32
    go_wp2_with fail
    refine HM1.out.mono ?_
    rintro e w1 ⟨rfl, hc⟩
    go_wp2_with fail
    refine (hM2.out _ hc).mono ?_
    rintro e w2 ⟨rfl, hc2⟩
    have hB := from_ hc hc2
    go_wp2
    go_ret
    exact ⟨rfl, hB⟩

set_option maxRecDepth 100000 in
set_option maxHeartbeats 1000000 in
theorem r7zero_any {w : World} {Z : Zone} {A : Option Addr} {c : Nat} {ps : List (Bool × List Nat)} (ha : VecAt w Z A c ps) :
    Calls Tryz.prog 26 #[.slice A ps.length c] w fun e w' => e = .returned (.bool (zeroV ps)) ∧ Below w.heap.size w w' := by
  have hlen := ha.len
  go_enter Tryz.func26, Tryz.ntmps26
  go_wp2
  go_loopw [3] (fun i wr => ∃ k : Nat, k ≤ ps.length ∧ i = .int .i64 (k : Int) ∧ Below w.heap.size w wr ∧ Hid (∀ j (hj : j < ps.length), j < k → zI ps[j].1 ps[j].2 = true)) (fun i _ => ps.length - (intOf i).toNat)
  case atStart => exact ⟨0, Nat.zero_le _, rfl, Below.refl _ _, fun j hj h => absurd h (by omega)⟩
  case round =>
    obtain ⟨k, hk, rfl, hbel, hz⟩ := hrel
    by_cases hlt : k < ps.length
    · obtain ⟨b, o, B, d, rfl, hbb, c0, c1, hu⟩ := (ha.below hbel).at hlt
      have Hall : Hid (zI ps[k].1 ps[k].2 = true → ∀ j (hj : j < ps.length), j < k + 1 → zI ps[j].1 ps[j].2 = true) := fun hx j hj hjk => by
        rcases Nat.lt_or_ge j k with h1 | h1
        · exact hz.out j hj h1
        · obtain rfl : j = k := by omega
          exact hx
      have Hnone : Hid (zI ps[k].1 ps[k].2 = false → zeroV ps = false) := fun hx => by
        cases hall : zeroV ps
        · rfl
        · have := List.all_eq_true.1 hall ps[k] (List.getElem_mem hlt)
          rw [this] at hx
          cases hx
      have hzi : zI ps[k].1 ps[k].2 = (!ps[k].1 && decide (ps[k].2.length = 0)) := rfl
      clear hu hz
      generalize ps[k].1 = s at *
      generalize ps[k].2 = l at *
      cases s
      · by_cases h0 : l.length = 0
        · have ht : zI false l = true := by rw [hzi]; simp [h0]
          have HT := Lib.hid (Hall.out ht)
          rw [h0] at c1
          clear hzi ht
          go_wp2
          go_roundw
          case rel => exact ⟨k + 1, by omega, by go_num, hbel, HT⟩
          case measure => simp [intOf]; omega
        · have ht : zI false l = false := by rw [hzi]; simp [h0]
          have HT := Lib.hid (Hnone.out ht)
          have hd : decide ((0 : Int) < (l.length : Int)) = true := decide_eq_true (by omega)
          have hd2 : decide (0 < l.length) = true := decide_eq_true (by omega)
          clear hzi ht
          go_wp2
          go_ret
          exact ⟨by rw [HT.out]; rfl, hbel⟩
      · have ht : zI true l = false := by rw [hzi]; rfl
        have HT := Lib.hid (Hnone.out ht)
        clear hzi ht
        go_wp2
        go_ret
        exact ⟨by rw [HT.out]; rfl, hbel⟩
    · obtain rfl : k = ps.length := by omega
      have he : zeroV ps = true := by
        unfold zeroV
        rw [List.all_eq_true]
        intro p hp
        obtain ⟨j, hj, rfl⟩ := List.getElem_of_mem hp
        exact hz.out j hj hj
      have HE := Lib.hid he
      clear he hz ha
      go_wp2
      go_ret
      exact ⟨by rw [HE.out]; rfl, hbel⟩

set_option maxRecDepth 100000 in
set_option maxHeartbeats 1000000 in
theorem r7compared_n {w : World} {Z Y : Zone} {A B : Option Addr} {c d K : Nat} {ps qs : List (Bool × List Nat)} {xs ys : List Int} (ha : VecAt w Z A c ps) (hb : VecAt w Y B d qs) (hx : NmV xs ps) (hy : NmV ys qs) (hlen : ps.length = qs.length) (hl : ps.length ≤ 64) (hK1 : ∀ p ∈ ps, p.2.length ≤ K) (hK2 : ∀ p ∈ qs, p.2.length ≤ K) (hK : K ≤ 4000) :
    Calls Tryz.prog 51 #[.slice A ps.length c, .slice B qs.length d] w fun e w' => e = .returned (.int .i64 (cmpV xs ys)) ∧ Below w.heap.size w w' := by
  obtain ⟨n, hn⟩ : ∃ n, n = ps.length := ⟨_, rfl⟩
  have hn2 : qs.length = n := by omega
  have hxl : xs.length = n := by rw [hx.len]; exact hn.symm
  have hyl : ys.length = n := by rw [hy.len]; exact hn2
  have Hn := Lib.hid (show n = ps.length ∧ qs.length = n ∧ xs.length = n ∧ ys.length = n from ⟨hn, hn2, hxl, hyl⟩)
  rw [hn2, ← hn]
  rw [← hn] at hl
  clear hn hn2 hxl hyl hlen
  go_enter Tryz.func51, Tryz.ntmps51
  go_wp2
  go_loopw [5] (fun i wr => ∃ k : Nat, k ≤ n ∧ i = .int .i64 k ∧ Below w.heap.size w wr ∧ Hid (cmpV xs ys = cmpV (xs.drop k) (ys.drop k))) (fun i _ => n - (intOf i).toNat)
  case atStart => exact ⟨0, Nat.zero_le _, rfl, Below.refl _ _, rfl⟩
  case round =>
    obtain ⟨k, hk, rfl, hbel, hz⟩ := hrel
    by_cases hlt : k < n
    · obtain ⟨hn1, hn2, hn3, hn4⟩ := Hn.out
      have hkp : k < ps.length := by omega
      have hkq : k < qs.length := by omega
      have hkx : k < xs.length := by omega
      have hky : k < ys.length := by omega
      obtain ⟨b, o, B1, d1, rfl, hbb, c0, c1, hu⟩ := (ha.below hbel).at hkp
      obtain ⟨b2, o2, B2, d2, rfl, hbb2, c2, c3, hu2⟩ := (hb.below hbel).at hkq
      have na := hx.at k hkx hkp
      have nb := hy.at k hky hkq
      have hst := cmpV_drop hkx hky
      rw [← hz.out] at hst
      have hp1 := hK1 ps[k] (List.getElem_mem hkp)
      have hq1 := hK2 qs[k] (List.getElem_mem hkq)
      obtain ⟨g, hg⟩ : ∃ g, sgn (xs[k] - ys[k]) = g := ⟨_, rfl⟩
      rw [hg] at hst
      have C0 := Lib.hid (r5compared_w (w := wr.drew) na nb hg (by omega) (by omega) (hu.below (Below.refl _ wr).drew) (hu2.below (Below.refl _ wr).drew))
      have hbd := hbel.drew
      have Hst := Lib.hid hst
      clear na nb hst hz hu hu2 hn1 hn2 hn3 hn4 hg
      generalize ps[k].1 = s at *
      generalize ps[k].2 = l at *
      generalize qs[k].1 = t at *
      generalize qs[k].2 = l2 at *
      by_cases hg0 : g = 0
      · subst hg0
        have Hst2 := Lib.hid (Hst.out.trans (if_pos rfl))
        go_wp2
        go_still_tail 8, (by kernel_rfl)
        change wpList _ _ _ _ _ wr.drew
        go_wp2_with fail
        refine C0.out.mono ?_
        rintro e w1 ⟨rfl, hb1⟩
        have hB1 := from_ hbd hb1
        go_wp2
        go_roundw
        case rel => exact ⟨k + 1, by omega, by go_num, hB1, Hst2⟩
        case measure => simp [intOf] <;> omega
      · have Hst2 := Lib.hid (Hst.out.trans (if_neg hg0))
        have hg1 : (g != 0) = true := bne_iff_ne.2 hg0
        go_wp2
        go_still_tail 8, (by kernel_rfl)
        change wpList _ _ _ _ _ wr.drew
        go_wp2_with fail
        refine C0.out.mono ?_
        rintro e w1 ⟨rfl, hb1⟩
        have hB1 := from_ hbd hb1
        go_wp2
        go_ret
        rw [Hst2.out]
        exact ⟨rfl, hB1⟩
    · obtain rfl : n = k := by omega
      have he : cmpV xs ys = 0 := by
        obtain ⟨_, _, h3, h4⟩ := Hn.out
        rw [hz.out, List.drop_eq_nil_of_le (by omega)]
        rfl
      have He := Lib.hid he
      clear he hz
      go_wp2
      go_ret
      rw [He.out]
      exact ⟨rfl, hbel⟩

set_option maxRecDepth 100000 in
set_option maxHeartbeats 1000000 in
theorem r7common_n {w : World} {Z : Zone} {A : Option Addr} {c K : Nat} {ps : List (Bool × List Nat)} {xs : List Int} (ha : VecAt w Z A c ps) (hx : NmV xs ps) (hl : ps.length ≤ 64) (hK1 : ∀ p ∈ ps, p.2.length ≤ K) (hK : K ≤ 1000) :
    Calls Tryz.prog 44 #[.slice A ps.length c] w fun e w' => ∃ v, e = .returned v ∧ IsN w' (new w.heap.size) v (gcdV xs) ∧ Below w.heap.size w w' := by
  obtain ⟨n, hn⟩ : ∃ n, n = ps.length := ⟨_, rfl⟩
  have hxl : xs.length = n := by rw [hx.len]; exact hn.symm
  rw [← hn] at hl ⊢
  have Hn := Lib.hid (show n = ps.length ∧ xs.length = n from ⟨hn, hxl⟩)
  clear hn hxl
  go_enter Tryz.func44, Tryz.ntmps44
  go_wp2
  go_loopw [3, 4] (fun v i wr => ∃ k : Nat, k ≤ n ∧ i = .int .i64 (k : Int) ∧ IsN wr (new w.heap.size) v (gcdK xs k) ∧ Hid ((limbs (gcdK xs k)).length ≤ K) ∧ Below w.heap.size w wr) (fun _ i _ => n - (intOf i).toNat)
  case atStart => exact ⟨0, Nat.zero_le _, rfl, IsN.zero _ _, (show (limbs 0).length ≤ K by rw [limbs_eq_nil.2 rfl]; simp), Below.refl _ _⟩
  case round =>
    obtain ⟨k, hk, rfl, hv, hlv, hbel⟩ := hrel
    by_cases hlt : k < n
    · obtain ⟨hn1, hn2⟩ := Hn.out
      have hkp : k < ps.length := by omega
      have hkx : k < xs.length := by omega
      obtain ⟨b, o, B1, d1, rfl, hbb, c0, c1, hu⟩ := (ha.below hbel).at hkp
      have na := hx.at k hkx hkp
      have hst := gcdK_succ hkx
      have hp1 := hK1 ps[k] (List.getElem_mem hkp)
      have hln := len_gcd (gcdK xs k) (xs[k]).natAbs
      rw [← hst] at hln
      have hgd := common_good hv (na.isN hu) (by have := hlv.out; omega) (by rw [← na.2]; omega)
      rw [← hst] at hgd
      have hl2 : (limbs (gcdK xs (k + 1))).length ≤ K := by
        have := hlv.out
        rw [← na.2] at hln
        omega
      have Hgd := Lib.hid hgd
      have Hl2 := Lib.hid hl2
      clear na hst hln hgd hl2 hu hlv hkx hn1 hn2
      generalize ps[k].1 = s at *
      generalize ps[k].2 = l at *
      go_wp2_with fail
      refine Hgd.out.mono ?_
      rintro e w2 ⟨v2, rfl, hv2, hb2⟩
      have hB2 := from_ hbel hb2
      have hv3 := Lib.hid (hv2.mono (Y := new w.heap.size) (new_le hbel.size))
      clear hv2
      go_wp2
      go_roundw
      case rel => exact ⟨k + 1, by omega, by go_num, hv3.out, Hl2, hB2⟩
      case measure => simp [intOf] <;> omega
    · obtain rfl : n = k := by omega
      rw [gcdK_all (by have := Hn.out.2; omega)] at hv
      have HV := Lib.hid hv
      clear hv hlv
      go_wp2
      go_ret
      exact ⟨_, rfl, HV.out, hbel⟩

set_option maxRecDepth 100000 in
set_option maxHeartbeats 1000000 in
theorem r7content_ok {w : World} {Z : Zone} {A : Option Addr} {c K : Nat} {ps : List (Bool × List Nat)} {xs : List Int} (ha : VecAt w Z A c ps) (hx : NmV xs ps) (hl : ps.length ≤ 64) (hK1 : ∀ p ∈ ps, p.2.length ≤ K) (hK : K ≤ 1000) :
    Calls Tryz.prog 15 #[.slice A ps.length c] w fun e w' => ∃ v, e = .returned (.tuple #[v, .int .i64 0]) ∧ IsN w' (new w.heap.size) v (gcdV xs) ∧ Below w.heap.size w w' := by
  have hM := r7may_any ha
  rw [hx.okV hl] at hM
  have HC : Hid (∀ W, Below w.heap.size w W → Calls Tryz.prog 44 #[.slice A ps.length c] W fun e w' => ∃ v, e = .returned v ∧ IsN w' (new W.heap.size) v (gcdV xs) ∧ Below W.heap.size W w') := fun W h => r7common_n (ha.below h) hx hl hK1 hK
  have HM := Lib.hid hM
  clear hM ha hK1
  generalize ps.length = n at *
  go_enter Tryz.func15, Tryz.ntmps15
  go_wp2_with fail
  refine HM.out.mono ?_
  rintro e w1 ⟨rfl, hc⟩
  go_wp2_with fail
  refine (HC.out _ hc).mono ?_
  rintro e w2 ⟨v, rfl, hv, hc2⟩
  have hB := from_ hc hc2
  have HV := Lib.hid (hv.mono (Y := new w.heap.size) (new_le hc.size))
  clear hv
  go_wp2
  go_ret2
  exact ⟨_, rfl, HV.out, hB⟩
set_option maxRecDepth 100000 in
set_option maxHeartbeats 1000000 in
theorem r7content_err {w : World} {Z : Zone} {A : Option Addr} {c : Nat} {ps : List (Bool × List Nat)} (ha : VecAt w Z A c ps) (ho : okV ps = false) :
    Calls Tryz.prog 15 #[.slice A ps.length c] w fun e w' => e = .returned (.tuple #[.slice none 0 0, .int .i64 8]) ∧ Below w.heap.size w w' := by
  have hM := r7may_any ha
  rw [ho] at hM
  have HM := Lib.hid hM
  have hl := ha.len
  clear hM ha ho
  generalize ps.length = n at *
  go_enter Tryz.func15, Tryz.ntmps15
  go_wp2_with fail
  refine HM.out.mono ?_
  rintro e w1 ⟨rfl, hc⟩
  go_wp2
  go_ret2
  exact ⟨rfl, hc⟩

set_option maxRecDepth 100000 in
set_option maxHeartbeats 1000000 in
theorem r7cmp_err {w : World} {Z Y : Zone} {A B : Option Addr} {c d : Nat} {ps qs : List (Bool × List Nat)} (ha : VecAt w Z A c ps) (hb : VecAt w Y B d qs) {E : Int} (hE : errVs [ps, qs] = E) (hE2 : E = 8 ∨ E = 70) :
    Calls Tryz.prog 19 #[.slice A ps.length c, .slice B qs.length d] w fun e w' => e = .returned (.tuple #[.int .i64 0, .int .i64 E]) ∧ Below w.heap.size w w' := by
  have hT := r7two_any ha hb
  rw [hE] at hT
  have HT := Lib.hid hT
  have hla := ha.len
  have hlb := hb.len
  clear hT ha hb hE
  generalize ps.length = n at *
  generalize qs.length = m at *
  rcases hE2 with rfl | rfl
  all_goals
    go_enter Tryz.func19, Tryz.ntmps19
    go_wp2_with fail
    refine HT.out.mono ?_
    rintro e w1 ⟨rfl, hc⟩
    go_wp2
    go_ret2
    exact ⟨rfl, hc⟩

set_option maxRecDepth 100000 in
set_option maxHeartbeats 1000000 in
theorem r7cmp_ok {w : World} {Z Y : Zone} {A B : Option Addr} {c d K : Nat} {ps qs : List (Bool × List Nat)} {xs ys : List Int} {g : Int} (ha : VecAt w Z A c ps) (hb : VecAt w Y B d qs) (hx : NmV xs ps) (hy : NmV ys qs) (hlen : ps.length = qs.length) (hl : ps.length ≤ 64) (hK1 : ∀ p ∈ ps, p.2.length ≤ K) (hK2 : ∀ p ∈ qs, p.2.length ≤ K) (hK : K ≤ 4000) (hg : cmpV xs ys = g) :
    Calls Tryz.prog 19 #[.slice A ps.length c, .slice B qs.length d] w fun e w' => e = .returned (.tuple #[.int .i64 g, .int .i64 0]) ∧ Below w.heap.size w w' := by
  have hT := r7two_any ha hb
  have e0 : errVs [ps, qs] = 0 := by rw [errVs_two, if_pos ⟨hx.okV hl, hy.okV (by omega)⟩, if_pos hlen]
  rw [e0] at hT
  have HC : Hid (∀ W, Below w.heap.size w W → Calls Tryz.prog 51 #[.slice A ps.length c, .slice B qs.length d] W fun e w' => e = .returned (.int .i64 g) ∧ Below W.heap.size W w') := fun W h => by
    have := r7compared_n (ha.below h) (hb.below h) hx hy hlen hl hK1 hK2 hK
    rwa [hg] at this
  have HT := Lib.hid hT
  have hla := ha.len
  have hlb := hb.len
  clear hT ha hb hx hy hK1 hK2 hg e0 hl hlen
  generalize ps.length = n at *
  generalize qs.length = m at *
  go_enter Tryz.func19, Tryz.ntmps19
  go_wp2_with fail
  refine HT.out.mono ?_
  rintro e w1 ⟨rfl, hc⟩
  go_wp2_with fail
  refine (HC.out _ hc).mono ?_
  rintro e w2 ⟨rfl, hc2⟩
  have hB := from_ hc hc2
  go_wp2
  go_ret2
  exact ⟨rfl, hB⟩

set_option maxRecDepth 100000 in
set_option maxHeartbeats 1000000 in
theorem r7dot_err {w : World} {Z Y : Zone} {A B : Option Addr} {c d : Nat} {ps qs : List (Bool × List Nat)} (ha : VecAt w Z A c ps) (hb : VecAt w Y B d qs) {E : Int} (hE : errVs [ps, qs] = E) (hE2 : E = 8 ∨ E = 70) :
    Calls Tryz.prog 7 #[.slice A ps.length c, .slice B qs.length d] w fun e w' => e = .returned (.tuple #[.agg #[.bool false, .slice none 0 0], .int .i64 E]) ∧ Below w.heap.size w w' := by
  have hB0 : Below w.heap.size w (w.alloc (.cells #[.bool false, .slice none 0 0] 27)) := (Below.refl _ w).alloc (Nat.le_refl _) _
  have bR := Box.new w (.bool false) (.slice none 0 0) 27
  have hT := r7two_any (ha.below hB0) (hb.below hB0)
  rw [hE] at hT
  have HT := Lib.hid hT
  have hla := ha.len
  have hlb := hb.len
  clear hT ha hb hE
  generalize ps.length = n at *
  generalize qs.length = m at *
  rcases hE2 with rfl | rfl
  all_goals
    go_enter Tryz.func7, Tryz.ntmps7
    go_wp2_with fail
    refine HT.out.mono ?_
    rintro e w1 ⟨rfl, hc⟩
    have bR1 := bR.below hc
    have HP := Lib.hid (bR1.put (from_ hB0 hc) (Nat.le_refl _) (.bool false) (.slice none 0 0))
    obtain ⟨q0, q1, f0, f1, _⟩ := bR1
    clear bR hc
    go_wp2
    refine bodyPost_ret (res_int2 rfl _ w.heap.size rfl HP.out.c0 HP.out.c1) rfl ?_
    exact ⟨rfl, HP.out.bel⟩

set_option maxRecDepth 100000 in
set_option maxHeartbeats 1000000 in
theorem r7dot_ok {w : World} {Z Y : Zone} {A B : Option Addr} {c d K : Nat} {ps qs : List (Bool × List Nat)} {xs ys : List Int} {r : Bool} {m : List Nat} (ha : VecAt w Z A c ps) (hb : VecAt w Y B d qs) (hx : NmV xs ps) (hy : NmV ys qs) (hlen : ps.length = qs.length) (hl : ps.length ≤ 64) (hK1 : ∀ p ∈ ps, p.2.length ≤ K) (hK2 : ∀ p ∈ qs, p.2.length ≤ K) (hK : K ≤ 4000) (h3 : Nm (dotZ xs ys) r m) :
    Calls Tryz.prog 7 #[.slice A ps.length c, .slice B qs.length d] w fun e w' => ∃ Av cv, e = .returned (.tuple #[.agg #[.bool r, .slice Av m.length cv], .int .i64 0]) ∧ U64s w' (new w.heap.size) Av cv m ∧ Below w.heap.size w w' := by
  have hB0 : Below w.heap.size w (w.alloc (.cells #[.bool false, .slice none 0 0] 27)) := (Below.refl _ w).alloc (Nat.le_refl _) _
  have bR := Box.new w (.bool false) (.slice none 0 0) 27
  have hT := r7two_any (ha.below hB0) (hb.below hB0)
  have e0 : errVs [ps, qs] = 0 := by rw [errVs_two, if_pos ⟨hx.okV hl, hy.okV (by omega)⟩, if_pos hlen]
  rw [e0] at hT
  have HC : Hid (∀ W, Below w.heap.size w W → Calls Tryz.prog 33 #[.slice A ps.length c, .slice B qs.length d] W fun e w' => ∃ Av cv, e = .returned (.agg #[.bool r, .slice Av m.length cv]) ∧ U64s w' (new W.heap.size) Av cv m ∧ Below W.heap.size W w') := fun W h => r7product_n (ha.below h) (hb.below h) hx hy hlen hl hK1 hK2 hK h3
  have HT := Lib.hid hT
  have hla := ha.len
  have hlb := hb.len
  clear hT ha hb hx hy hK1 hK2 h3 e0 hl hlen
  generalize ps.length = n at *
  generalize qs.length = n2 at *
  go_enter Tryz.func7, Tryz.ntmps7
  go_wp2_with fail
  refine HT.out.mono ?_
  rintro e w1 ⟨rfl, hc⟩
  have bR1 := bR.below hc
  have hB1 := from_ hB0 hc
  clear bR hc
  go_wp2_with fail
  refine (HC.out _ hB1).mono ?_
  rintro e w2 ⟨Av, cv, rfl, hv, hc⟩
  have zl := bR1.lt
  have bR2 := bR1.below hc
  have HP := Lib.hid (bR2.put (from_ hB1 hc) (Nat.le_refl _) (.bool r) (.slice Av m.length cv))
  have Hu := Lib.hid (HP.out.keep (B := w1.heap.size) zl (⟨Av, cv, rfl, hv⟩ : IsU w2 _ (.slice Av m.length cv) m))
  obtain ⟨q0, q1, f0, f1, _⟩ := bR2
  clear hv zl hc
  go_wp2
  refine bodyPost_ret (res_int2 rfl _ w.heap.size rfl HP.out.c0 HP.out.c1) rfl ?_
  obtain ⟨A', c', e', h'⟩ := Hu.out
  injection e' with e1 e2 e3
  subst e1 e3
  exact ⟨_, _, rfl, h', HP.out.bel⟩

end Go.Proofs.YtdhgjkihghndiaaGreat

namespace Go.Proofs.YtdhgjkihghndiaaGreat
open Go.RowKit
set_option linter.unusedVariables false
set_option linter.unusedSimpArgs false

theorem tq_sgn {x : Int} {g : Nat} (hg : g ≠ 0) (h : g ∣ x.natAbs) : decide (tq x (g : Int) < 0) = decide (x < 0) := by
  refine decide_eq_decide.2 ?_
  have hq : x.natAbs / g = 0 ↔ x.natAbs = 0 := by
    constructor
    · intro h0
      have := Nat.div_mul_cancel h
      rw [h0, Nat.zero_mul] at this
      exact this.symm
    · intro h0
      rw [h0, Nat.zero_div]
  unfold tq
  have hgn : decide ((g : Int) < 0) = false := decide_eq_false (by omega)
  rw [hgn, Int.natAbs_natCast]
  by_cases hx : x < 0
  · rw [decide_eq_true hx, if_neg (by simp)]
    have h9 : x.natAbs / g ≠ 0 := fun e => by have := hq.1 e; omega
    generalize x.natAbs / g = q at *
    omega
  · rw [decide_eq_false hx, if_pos rfl]
    generalize x.natAbs / g = q at *
    omega
theorem mixed_at {xs ys : List Int} {m n : Int} {k : Nat} (h : k < (List.zipWith (fun x y => m * x + n * y) xs ys).length) (h1 : k < xs.length) (h2 : k < ys.length) : (List.zipWith (fun x y => m * x + n * y) xs ys)[k] = m * xs[k] + n * ys[k] := by simp
theorem keepB {W W' : World} {B g i : Nat} {v : Value} (hb : Below B W W') (h : W.cell? ⟨g, i, none⟩ = some v) (hg : g < B) : W'.cell? ⟨g, i, none⟩ = some v := (hb.cell (p := ⟨g, i, none⟩) hg).trans h
theorem keepFB {W W' : World} {B g i : Nat} (hb : Below B W W') (h : W.frozen? ⟨g, i, none⟩ = false) (hg : g < B) (hl : g < W.heap.size) : W'.frozen? ⟨g, i, none⟩ = false := (hb.frozen (p := ⟨g, i, none⟩) hg).trans h
theorem two_newsD {W : World} {u1 u2 : Value} {t : TypeId} : ∀ j u, [u1, u2][j]? = some u → (W.alloc (.cells #[u1, u2] t)).cell? ⟨W.heap.size, j, none⟩ = some u := two_news

set_option maxRecDepth 100000 in
set_option maxHeartbeats 1000000 in
theorem r7twin_any {w : World} {Z : Zone} {A : Option Addr} {c : Nat} {ps : List (Bool × List Nat)} (ha : VecAt w Z A c ps) (hl : ps.length ≤ 100000) (hK1 : ∀ p ∈ ps, p.2.length ≤ 100000) :
    Calls Tryz.prog 5 #[.slice A ps.length c] w fun e w' => ∃ v, e = .returned v ∧ IsVec w' (new w.heap.size) v ps ∧ Below w.heap.size w w' := by
  obtain ⟨i0, hi, hz0, hz1, hz2⟩ := info_parts infoI
  obtain ⟨j0, hj, hj0, hj1, hj2⟩ := info_parts Tryz.info59
  go_enter Tryz.func5, Tryz.ntmps5
  go_wp2
  go_loopw [3, 4] (fun v i wr => ∃ (k : Nat) (xs : List Value), k ≤ ps.length ∧ i = .int .i64 (k : Int) ∧ wr.ownsRow w.heap.size 27 2 v k xs ∧ Hid (CellsF wr w.heap.size v xs k ps) ∧ Below w.heap.size w wr) (fun _ i _ => ps.length - (intOf i).toNat)
  case atStart => exact ⟨0, [], Nat.zero_le _, rfl, World.ownsRow_nil _ _ _ _, Lib.hid (CellsF.zero _ _ _ _ _), Below.refl _ _⟩
  case round =>
    obtain ⟨k, xs, hk, rfl, hown, hcells, hbel⟩ := hrel
    by_cases hlt : k < ps.length
    · obtain ⟨b, o, B1, d1, rfl, hbb, c0, c1, hu⟩ := (ha.below hbel).at hlt
      obtain ⟨b', o', B1', d1', e9, hbw, _⟩ := ha.at hlt
      injection e9 with e9
      injection e9 with e10 e11 _
      subst e10 e11
      have hp1 := hK1 ps[k] (List.getElem_mem hlt)
      have hgr : Hid (∀ (W W' : World) (v v' : Value) (Av : Option Addr) (cv : Nat), CellsF W w.heap.size v xs k ps → xs.length = k * 2 → W.grownBy W' v.ownBlock → Fresh W v v' → U64s W (newX w.heap.size v) Av cv ps[k].2 → CellsF W' w.heap.size v' (xs ++ [.bool ps[k].1, .slice Av ps[k].2.length cv]) (k + 1) ps) := fun W W' v v' Av cv h1 h2 h3 h4 h5 => h1.grow h2 h3 h4 hlt h5
      have hd0 : Below wr.heap.size wr wr.drew := (Below.refl wr.heap.size wr).drew
      have hs := And.intro (keepC hd0 c0) (keepC hd0 c1)
      have ud := hu.below hd0
      have HO := Lib.hid (own_below hown hd0)
      have HC := Lib.hid (hcells.out.below hd0)
      have HB := Lib.hid (from_ hbel hd0)
      have HL := Lib.hid (own_lt hown)
      have Hbw := Lib.hid hbw
      have hsm := Lib.hid hu.small
      have HDR := Lib.hid (show w.heap.size ≤ wr.drew.heap.size from hbel.size)
      have Hxl := Lib.hid hown.1
      clear hu hown hcells hbel hd0 c0 c1 hbw
      generalize ps[k].1 = s at *
      generalize ps[k].2 = l at *
      go_wp2
      first | go_region_held3 (fun w' => w'.cell? ⟨b, o + k * 2, none⟩ = some (.bool s) ∧ w'.cell? ⟨b, o + k * 2 + 1, none⟩ = some (.slice B1 l.length d1))
        (first
          | with_reducible exact hs
          | with_reducible exact hsA
          | with_reducible exact hsB)
        (first
          | (refine step_appU rfl _ _ 25 rfl wr.drew.heap.size 59 j0 Tryz.underlying25 hj hj0 hj1 hj2 rfl rfl rfl ud (by omega) (Nat.le_refl _) ?_; intro vU wa hownU hgU; have hca : Below wr.drew.heap.size wr.drew wa := (Below.refl wr.drew.heap.size wr.drew).grown hgU (Nat.le_refl _) (fun k h => by cases h); obtain ⟨Av, cv, rfl⟩ := own_shape hownU; have uv := isU_after hsm.out rfl hownU (Nat.le_refl _); replace hs := And.intro (keepC hca hs.1) (keepC hca hs.2); have hsA := And.intro (keepC ((Below.refl wa.heap.size wa).alloc (Nat.le_refl _) (.cells #[.bool s, .slice Av l.length cv] 27)) hs.1) (keepC ((Below.refl wa.heap.size wa).alloc (Nat.le_refl _) (.cells #[.bool s, .slice Av l.length cv] 27)) hs.2); replace HO := Lib.hid (own_below HO.out hca); replace HC := Lib.hid (HC.out.below hca); replace HB := Lib.hid (from_ HB.out hca); have HZ := Lib.hid HB.out.size)
          | (refine step_appF rfl _ _ 23 rfl w.heap.size 27 i0 (.agg #[.bool false, .slice none 0 0]) 2 32 Tryz.underlying23 hi hz0 hz1 hz2 rfl (by omega) (by omega) _ _ _ rfl (HO.out.alloc _) wa.heap.size [.bool s, .slice Av l.length cv] rfl rfl two_news (by simp [Value.oneCell']) (by omega) (by have := HZ.out; simp; omega) ?_; intro v' wb hown' hgrow hfresh; have hal := (Below.refl wa.heap.size wa).alloc (Nat.le_refl _) (.cells #[.bool s, .slice Av l.length cv] 27); have hgB : Below w.heap.size (wa.alloc (.cells #[.bool s, .slice Av l.length cv] 27)) wb := (Below.refl w.heap.size _).grown hgrow (by have := HZ.out; simp; omega) (fun q hq => (HO.out.lt q hq).1); have hsB := And.intro (keepB hgB hsA.1 Hbw.out) (keepB hgB hsA.2 Hbw.out); have HF := Lib.hid (hgr.out _ _ _ _ _ _ (HC.out.below hal) Hxl.out hgrow hfresh ((uv.below hal).toX HL.out HDR.out)); have HB2 := Lib.hid ((from_ HB.out hal).trans hgB))) | fail
      all_goals
        go_wp2
        go_roundw
        case rel => exact ⟨k + 1, _, by omega, by go_num, hown', HF, HB2.out⟩
        case measure => simp [intOf]; omega
    · obtain rfl : k = ps.length := by omega
      have hfin := hcells.out.fin hown
      have Hfin := Lib.hid hfin
      obtain ⟨A2, c2, rfl⟩ := own_shape hown
      clear hfin hcells hown
      go_wp2
      go_ret
      exact ⟨_, rfl, Hfin.out, hbel⟩

end Go.Proofs.YtdhgjkihghndiaaGreat

namespace Go.Proofs.YtdhgjkihghndiaaGreat
open Go.RowKit
set_option linter.unusedVariables false
set_option linter.unusedSimpArgs false


set_option maxRecDepth 100000 in
set_option maxHeartbeats 1000000 in
theorem r7mixed_n {w : World} {Z Y Z3 Z4 : Zone} {A B Am An : Option Addr} {c d cm cn K : Nat} {ps qs rs : List (Bool × List Nat)} {sm sn : Bool} {lm ln : List Nat} {xs ys : List Int} {zm zn : Int} (ha : VecAt w Z A c ps) (hb : VecAt w Y B d qs) (um : U64s w Z3 Am cm lm) (un : U64s w Z4 An cn ln) (hx : NmV xs ps) (hy : NmV ys qs) (hm : Nm zm sm lm) (hn : Nm zn sn ln) (hlen : ps.length = qs.length) (hl : ps.length ≤ 64) (hK1 : ∀ p ∈ ps, p.2.length ≤ K) (hK2 : ∀ p ∈ qs, p.2.length ≤ K) (hK3 : lm.length ≤ K) (hK4 : ln.length ≤ K) (hK : K ≤ 2000) (h3 : NmV (List.zipWith (fun x y => zm * x + zn * y) xs ys) rs) :
    Calls Tryz.prog 36 #[.agg #[.bool sm, .slice Am lm.length cm], .slice A ps.length c, .agg #[.bool sn, .slice An ln.length cn], .slice B qs.length d] w fun e w' => ∃ v, e = .returned v ∧ IsVec w' (new w.heap.size) v rs ∧ Below w.heap.size w w' := by
  obtain ⟨i0, hi, hz0, hz1, hz2⟩ := info_parts infoI
  obtain ⟨bM, bN, hB0⟩ := boxes2 w (.bool sm) (.slice Am lm.length cm) (.bool sn) (.slice An ln.length cn) 27
  have HB0 := Lib.hid hB0
  obtain ⟨N, hN⟩ : ∃ N, N = ps.length := ⟨_, rfl⟩
  have hzl : rs.length = N := by rw [← h3.len, List.length_zipWith, hx.len, hy.len]; omega
  have Hn := Lib.hid (show N = ps.length ∧ qs.length = N ∧ xs.length = N ∧ ys.length = N ∧ rs.length = N from ⟨hN, by omega, by rw [hx.len]; omega, by rw [hy.len]; omega, hzl⟩)
  have hq : qs.length = N := by omega
  rw [← hN, hq]
  rw [← hN] at hl
  clear hN hq hzl hlen hB0
  go_enter Tryz.func36, Tryz.ntmps36
  go_wp2
  go_loopw [9, 10] (fun v i wr => ∃ (k : Nat) (xv : List Value), k ≤ N ∧ i = .int .i64 (k : Int) ∧ wr.ownsRow (w.heap.size + 2) 27 2 v k xv ∧ Hid (CellsF wr (w.heap.size + 2) v xv k rs) ∧ Below w.heap.size w wr ∧ Box wr w.heap.size (.bool sm) (.slice Am lm.length cm) ∧ Box wr (w.heap.size + 1) (.bool sn) (.slice An ln.length cn)) (fun _ i _ => N - (intOf i).toNat)
  case atStart => exact ⟨0, [], Nat.zero_le _, rfl, World.ownsRow_nil _ _ _ _, Lib.hid (CellsF.zero _ _ _ _ _), HB0.out, bM, bN⟩
  case round =>
    obtain ⟨k, xv, hk, rfl, hown, hcells, hbel, bMr, bNr⟩ := hrel
    by_cases hlt : k < N
    · obtain ⟨n1, n2, n3, n4, n5⟩ := Hn.out
      have hkp : k < ps.length := by omega
      have hkq : k < qs.length := by omega
      have hkx : k < xs.length := by omega
      have hky : k < ys.length := by omega
      have hkr : k < rs.length := by omega
      obtain ⟨b, o, B1, d1, eA, hbb, c0, c1, hu⟩ := (ha.below hbel).at hkp
      obtain ⟨b', o', _, _, eA', hbw, _⟩ := ha.at hkp
      rw [eA] at eA'
      injection eA' with e9
      injection e9 with e10 e11 _
      subst e10 e11
      obtain ⟨b2, o2, B2, d2, eB, hbb2, c2, c3, hu2⟩ := (hb.below hbel).at hkq
      obtain ⟨b2', o2', _, _, eB', hbw2, _⟩ := hb.at hkq
      rw [eB] at eB'
      injection eB' with e9
      injection e9 with e10 e11 _
      subst e10 e11
      subst eA eB
      have na := hx.at k hkx hkp
      have nb := hy.at k hky hkq
      have nr := h3.at k (by rw [List.length_zipWith]; omega) hkr
      rw [mixed_at _ hkx hky] at nr
      have hp1 := hK1 ps[k] (List.getElem_mem hkp)
      have hq1 := hK2 qs[k] (List.getElem_mem hkq)
      obtain ⟨s1, l1, m1⟩ : ∃ s1 l1, Nm (zm * xs[k]) s1 l1 := ⟨_, _, Nm.mk' _⟩
      obtain ⟨s2, l2, m2⟩ : ∃ s2 l2, Nm (zn * ys[k]) s2 l2 := ⟨_, _, Nm.mk' _⟩
      have z1 := lz_mul zm xs[k]
      have z2 := lz_mul zn ys[k]
      rw [← m1.len, ← hm.len, ← na.len] at z1
      rw [← m2.len, ← hn.len, ← nb.len] at z2
      have hgr : Hid (∀ (W W' : World) (v v' : Value) (Av : Option Addr) (cv : Nat), CellsF W (w.heap.size + 2) v xv k rs → xv.length = k * 2 → W.grownBy W' v.ownBlock → Fresh W v v' → U64s W (newX (w.heap.size + 2) v) Av cv rs[k].2 → CellsF W' (w.heap.size + 2) v' (xv ++ [.bool rs[k].1, .slice Av rs[k].2.length cv]) (k + 1) rs) := fun W W' v v' Av cv g1 g2 g3 g4 g5 => g1.grow g2 g3 g4 hkr g5
      have C1 : Hid (∀ W, Below w.heap.size w W → Below wr.heap.size wr W → Calls Tryz.prog 62 #[.agg #[.bool sm, .slice Am lm.length cm], .agg #[.bool ps[k].1, .slice B1 ps[k].2.length d1]] W fun e w' => ∃ Av cv, e = .returned (.agg #[.bool s1, .slice Av l1.length cv]) ∧ U64s w' (new W.heap.size) Av cv l1 ∧ Below W.heap.size W w') := fun W g1 g2 => r5times_v hm na m1 rfl (by omega) (by omega) (um.below g1) (hu.below g2)
      have C2 : Hid (∀ W, Below w.heap.size w W → Below wr.heap.size wr W → Calls Tryz.prog 62 #[.agg #[.bool sn, .slice An ln.length cn], .agg #[.bool qs[k].1, .slice B2 qs[k].2.length d2]] W fun e w' => ∃ Av cv, e = .returned (.agg #[.bool s2, .slice Av l2.length cv]) ∧ U64s w' (new W.heap.size) Av cv l2 ∧ Below W.heap.size W w') := fun W g1 g2 => r5times_v hn nb m2 rfl (by omega) (by omega) (un.below g1) (hu2.below g2)
      have C3 : Hid (∀ W X Y A1 c1 A2 c2, U64s W X A1 c1 l1 → U64s W Y A2 c2 l2 → Calls Tryz.prog 61 #[.agg #[.bool s1, .slice A1 l1.length c1], .agg #[.bool s2, .slice A2 l2.length c2]] W fun e w' => ∃ Av cv, e = .returned (.agg #[.bool rs[k].1, .slice Av rs[k].2.length cv]) ∧ U64s w' (new W.heap.size) Av cv rs[k].2 ∧ Below W.heap.size W w') := fun W X Y A1 c1 A2 c2 g1 g2 => r5sum_n m1 m2 nr rfl (by omega) (by omega) g1 g2
      have hd0 : Below wr.heap.size wr wr.drew := (Below.refl wr.heap.size wr).drew
      have hs := And.intro (keepC hd0 bMr.c0) (And.intro (keepC hd0 bMr.c1) (And.intro (keepC hd0 c0) (And.intro (keepC hd0 c1) (And.intro (keepC hd0 bNr.c0) (And.intro (keepC hd0 bNr.c1) (And.intro (keepC hd0 c2) (keepC hd0 c3)))))))
      have HO := Lib.hid (own_below hown hd0)
      have HC := Lib.hid (hcells.out.below hd0)
      have HB := Lib.hid (from_ hbel hd0)
      have HR := Lib.hid hd0
      have HL := Lib.hid (own_lt hown)
      have HSZ := Lib.hid (show w.heap.size + 2 ≤ wr.heap.size from bNr.lt)
      have HBM := Lib.hid bMr
      have HBN := Lib.hid bNr
      have Hbw := Lib.hid (show b < w.heap.size + 2 by omega)
      have Hbw2 := Lib.hid (show b2 < w.heap.size + 2 by omega)
      have Hxl := Lib.hid hown.1
      have HWR := Lib.hid hbel
      clear hu hu2 hown hcells hbel hd0 c0 c1 c2 c3 hbw hbw2 bMr bNr na nb nr m1 m2 z1 z2 n1 n2 n3 n4 n5 hp1 hq1
      generalize ps[k].1 = s at *
      generalize ps[k].2 = l at *
      generalize qs[k].1 = t at *
      generalize qs[k].2 = l' at *
      generalize rs[k].1 = r at *
      generalize rs[k].2 = lr at *
      go_wp2
      first | go_region_held3 (fun w' => w'.cell? ⟨w.heap.size, 0, none⟩ = some (.bool sm) ∧ w'.cell? ⟨w.heap.size, 1, none⟩ = some (.slice Am lm.length cm) ∧ w'.cell? ⟨b, o + k * 2, none⟩ = some (.bool s) ∧ w'.cell? ⟨b, o + k * 2 + 1, none⟩ = some (.slice B1 l.length d1) ∧ w'.cell? ⟨w.heap.size + 1, 0, none⟩ = some (.bool sn) ∧ w'.cell? ⟨w.heap.size + 1, 1, none⟩ = some (.slice An ln.length cn) ∧ w'.cell? ⟨b2, o2 + k * 2, none⟩ = some (.bool t) ∧ w'.cell? ⟨b2, o2 + k * 2 + 1, none⟩ = some (.slice B2 l'.length d2))
        (first
          | with_reducible exact hs
          | with_reducible exact hsA
          | with_reducible exact hsB)
        (first
          | (go_at_call 62; with_reducible refine (C1.out _ HB.out HR.out).mono ?_; rintro e w' ⟨A1, e1, rfl, v1, hc⟩; replace hs := And.intro (keepC hc hs.1) (And.intro (keepC hc hs.2.1) (And.intro (keepC hc hs.2.2.1) (And.intro (keepC hc hs.2.2.2.1) (And.intro (keepC hc hs.2.2.2.2.1) (And.intro (keepC hc hs.2.2.2.2.2.1) (And.intro (keepC hc hs.2.2.2.2.2.2.1) (keepC hc hs.2.2.2.2.2.2.2))))))); replace HO := Lib.hid (own_below HO.out hc); replace HC := Lib.hid (HC.out.below hc); replace HB := Lib.hid (from_ HB.out hc); replace HR := Lib.hid (from_ HR.out hc); (try replace v2 := v2.below hc))
          | (go_at_call 62; with_reducible refine (C2.out _ HB.out HR.out).mono ?_; rintro e w' ⟨A2, e2, rfl, v2, hc⟩; replace hs := And.intro (keepC hc hs.1) (And.intro (keepC hc hs.2.1) (And.intro (keepC hc hs.2.2.1) (And.intro (keepC hc hs.2.2.2.1) (And.intro (keepC hc hs.2.2.2.2.1) (And.intro (keepC hc hs.2.2.2.2.2.1) (And.intro (keepC hc hs.2.2.2.2.2.2.1) (keepC hc hs.2.2.2.2.2.2.2))))))); replace HO := Lib.hid (own_below HO.out hc); replace HC := Lib.hid (HC.out.below hc); replace HB := Lib.hid (from_ HB.out hc); replace HR := Lib.hid (from_ HR.out hc); (try replace v1 := v1.below hc))
          | (go_at_call 61; with_reducible refine (C3.out _ _ _ _ _ _ _ v1 v2).mono ?_; rintro e wa ⟨Av, cv, rfl, uv, hc⟩; have HPr := Lib.hid HR.out.size; replace hs := And.intro (keepC hc hs.1) (And.intro (keepC hc hs.2.1) (And.intro (keepC hc hs.2.2.1) (And.intro (keepC hc hs.2.2.2.1) (And.intro (keepC hc hs.2.2.2.2.1) (And.intro (keepC hc hs.2.2.2.2.2.1) (And.intro (keepC hc hs.2.2.2.2.2.2.1) (keepC hc hs.2.2.2.2.2.2.2))))))); replace HO := Lib.hid (own_below HO.out hc); replace HC := Lib.hid (HC.out.below hc); replace HB := Lib.hid (from_ HB.out hc); replace HR := Lib.hid (from_ HR.out hc); have hsA := And.intro (keepC ((Below.refl wa.heap.size wa).alloc (Nat.le_refl _) (.cells #[.bool r, .slice Av lr.length cv] 27)) hs.1) (And.intro (keepC ((Below.refl wa.heap.size wa).alloc (Nat.le_refl _) (.cells #[.bool r, .slice Av lr.length cv] 27)) hs.2.1) (And.intro (keepC ((Below.refl wa.heap.size wa).alloc (Nat.le_refl _) (.cells #[.bool r, .slice Av lr.length cv] 27)) hs.2.2.1) (And.intro (keepC ((Below.refl wa.heap.size wa).alloc (Nat.le_refl _) (.cells #[.bool r, .slice Av lr.length cv] 27)) hs.2.2.2.1) (And.intro (keepC ((Below.refl wa.heap.size wa).alloc (Nat.le_refl _) (.cells #[.bool r, .slice Av lr.length cv] 27)) hs.2.2.2.2.1) (And.intro (keepC ((Below.refl wa.heap.size wa).alloc (Nat.le_refl _) (.cells #[.bool r, .slice Av lr.length cv] 27)) hs.2.2.2.2.2.1) (And.intro (keepC ((Below.refl wa.heap.size wa).alloc (Nat.le_refl _) (.cells #[.bool r, .slice Av lr.length cv] 27)) hs.2.2.2.2.2.2.1) (keepC ((Below.refl wa.heap.size wa).alloc (Nat.le_refl _) (.cells #[.bool r, .slice Av lr.length cv] 27)) hs.2.2.2.2.2.2.2))))))); have HZ := Lib.hid (show w.heap.size + 2 ≤ wa.heap.size from Nat.le_trans HSZ.out HR.out.size))
          | (refine step_appF rfl _ _ 23 rfl (w.heap.size + 2) 27 i0 (.agg #[.bool false, .slice none 0 0]) 2 32 Tryz.underlying23 hi hz0 hz1 hz2 rfl (by omega) (by omega) _ _ _ rfl (HO.out.alloc _) wa.heap.size [.bool r, .slice Av lr.length cv] rfl rfl two_news (by simp [Value.oneCell']) (by omega) (by have := HZ.out; simp; omega) ?_; intro v' wb hown' hgrow hfresh; have hal := (Below.refl wa.heap.size wa).alloc (Nat.le_refl _) (.cells #[.bool r, .slice Av lr.length cv] 27); have hgB : Below (w.heap.size + 2) (wa.alloc (.cells #[.bool r, .slice Av lr.length cv] 27)) wb := (Below.refl (w.heap.size + 2) _).grown hgrow (by have := HZ.out; simp; omega) (fun q hq => (HO.out.lt q hq).1); have hsB := And.intro (keepB hgB hsA.1 (by omega)) (And.intro (keepB hgB hsA.2.1 (by omega)) (And.intro (keepB hgB hsA.2.2.1 Hbw.out) (And.intro (keepB hgB hsA.2.2.2.1 Hbw.out) (And.intro (keepB hgB hsA.2.2.2.2.1 (by omega)) (And.intro (keepB hgB hsA.2.2.2.2.2.1 (by omega)) (And.intro (keepB hgB hsA.2.2.2.2.2.2.1 Hbw2.out) (keepB hgB hsA.2.2.2.2.2.2.2 Hbw2.out))))))); have HF := Lib.hid (hgr.out _ _ _ _ _ _ (HC.out.below hal) Hxl.out hgrow hfresh ((uv.below hal).toX (fun q hq => Nat.lt_of_lt_of_le (HL.out q hq) HPr.out) (Nat.le_trans HSZ.out HPr.out))); have HB2 := Lib.hid ((from_ HB.out hal).trans (hgB.mono (Nat.le_add_right _ _))); have HAll := Lib.hid (from_ HR.out hal); have HGB := Lib.hid hgB)) | fail
      all_goals
        have bM2 : Box wb w.heap.size (.bool sm) (.slice Am lm.length cm) := ⟨keepB HGB.out (HBM.out.below HAll.out).c0 (by omega), keepB HGB.out (HBM.out.below HAll.out).c1 (by omega), keepFB HGB.out (HBM.out.below HAll.out).f0 (by omega) (by have := HZ.out; simp; omega), keepFB HGB.out (HBM.out.below HAll.out).f1 (by omega) (by have := HZ.out; simp; omega), by have := HB2.out.size; have := HGB.out.size; simp at this; have := HZ.out; omega⟩
        have bN2 : Box wb (w.heap.size + 1) (.bool sn) (.slice An ln.length cn) := ⟨keepB HGB.out (HBN.out.below HAll.out).c0 (by omega), keepB HGB.out (HBN.out.below HAll.out).c1 (by omega), keepFB HGB.out (HBN.out.below HAll.out).f0 (by omega) (by have := HZ.out; simp; omega), keepFB HGB.out (HBN.out.below HAll.out).f1 (by omega) (by have := HZ.out; simp; omega), by have := HGB.out.size; simp at this; have := HZ.out; omega⟩
        go_wp2
        go_roundw
        case rel => exact ⟨k + 1, _, by omega, by go_num, hown', HF, HB2.out, bM2, bN2⟩
        case measure => simp [intOf]; omega
    · obtain rfl : k = N := by omega
      have hr5 := Hn.out.2.2.2.2
      have hc9 := hcells.out
      rw [← hr5] at hc9 hown
      have hfin := hc9.fin hown
      obtain ⟨A2, c2, rfl⟩ := own_shape hown
      have Hfin := Lib.hid (show IsVec wr (new w.heap.size) _ rs from let ⟨a, b, e, h⟩ := hfin; ⟨a, b, e, h.mono (new_le (by omega))⟩)
      clear hfin hcells hown hc9
      go_wp2
      go_ret
      exact ⟨_, rfl, Hfin.out, hbel⟩

end Go.Proofs.YtdhgjkihghndiaaGreat

namespace Go.Proofs.YtdhgjkihghndiaaGreat
open Go.RowKit
set_option linter.unusedVariables false
set_option linter.unusedSimpArgs false


set_option maxRecDepth 100000 in
set_option maxHeartbeats 1000000 in
theorem r7low_n {w : World} {Z : Zone} {A : Option Addr} {c K : Nat} {ps rs : List (Bool × List Nat)} {xs : List Int} (ha : VecAt w Z A c ps) (hx : NmV xs ps) (hl : ps.length ≤ 64) (hK1 : ∀ p ∈ ps, p.2.length ≤ K) (hK : K ≤ 1000) (h3 : NmV (lowV xs) rs) :
    Calls Tryz.prog 47 #[.slice A ps.length c] w fun e w' => ∃ v, e = .returned v ∧ IsVec w' (new w.heap.size) v rs ∧ Below w.heap.size w w' := by
  obtain ⟨i0, hi, hz0, hz1, hz2⟩ := info_parts infoI
  have HCm := Lib.hid (r7common_n ha hx hl hK1 hK)
  by_cases hg : gcdV xs = 0
  · have hr : rs = ps := by
      have : lowV xs = xs := if_pos hg
      rw [this] at h3
      rw [h3, hx]
    subst hr
    have e0 : limbs 0 = [] := limbs_eq_nil.2 rfl
    rw [hg] at HCm
    have HT : Hid (∀ W, Below w.heap.size w W → Calls Tryz.prog 5 #[.slice A rs.length c] W fun e w' => ∃ v, e = .returned v ∧ IsVec w' (new W.heap.size) v rs ∧ Below W.heap.size W w') := fun W h => r7twin_any (ha.below h) (by omega) (fun p hp => by have := hK1 p hp; omega)
    clear ha hx h3 hK1
    generalize hN : rs.length = N at *
    clear hN
    go_enter Tryz.func47, Tryz.ntmps47
    go_wp2_with fail
    refine HCm.out.mono ?_
    rintro e w1 ⟨_, rfl, ⟨Ag, cg, rfl, -⟩, hc⟩
    rw [e0]
    go_wp2_with fail
    refine (HT.out _ hc).mono ?_
    rintro e w2 ⟨v, rfl, ⟨Av, cv, rfl, hv⟩, hc2⟩
    have hB := from_ hc hc2
    have HV := Lib.hid (hv.mono (Y := new w.heap.size) (new_le hc.size))
    clear hv
    go_wp2
    go_ret
    exact ⟨_, rfl, ⟨Av, cv, rfl, HV.out⟩, hB⟩
  · have hlow : lowV xs = xs.map fun x => tq x (gcdV xs : Int) := if_neg hg
    rw [hlow] at h3
    have hgl : (limbs (gcdV xs)).length ≤ K := by
      have h9 : ∀ k, (limbs (gcdK xs k)).length ≤ K := fun k => by
        induction k with
        | zero => rw [show gcdK xs 0 = 0 from rfl, limbs_eq_nil.2 rfl]; simp
        | succ k ih =>
          by_cases hk : k < xs.length
          · rw [gcdK_succ hk]
            have := len_gcd (gcdK xs k) (xs[k]).natAbs
            have hkp : k < ps.length := by rw [← hx.len]; exact hk
            have h8 := hK1 ps[k] (List.getElem_mem hkp)
            rw [(hx.at k hk hkp).2] at h8
            omega
          · rw [gcdK_all (by omega), ← gcdK_all (xs := xs) (k := k) (by omega)]
            exact ih
      have := h9 xs.length
      rwa [gcdK_all (Nat.le_refl _)] at this
    obtain ⟨N, hN⟩ : ∃ N, N = ps.length := ⟨_, rfl⟩
    have Hn := Lib.hid (show N = ps.length ∧ xs.length = N ∧ rs.length = N from ⟨hN, by rw [hx.len]; omega, by rw [← h3.len, List.length_map, hx.len]; omega⟩)
    rw [← hN] at HCm hl ⊢
    clear hN hlow
    have hgp := len_pos.2 hg
    have hgz : (((limbs (gcdV xs)).length : Int) == 0) = false := beq_eq_false_iff_ne.2 (by omega)
    have hgz2 : decide ((limbs (gcdV xs)).length = 0) = false := decide_eq_false (by omega)
    have Hgl := Lib.hid hgl
    have Hg0 := Lib.hid hg
    clear hgl hg
    go_enter Tryz.func47, Tryz.ntmps47
    go_wp2_with fail
    refine HCm.out.mono ?_
    rintro e w0 ⟨_, rfl, ⟨Ag, cg, rfl, ug⟩, hc0⟩
    have hlt0 := hc0.size
    clear HCm
    obtain ⟨G, hG⟩ : ∃ G, G = (limbs (gcdV xs)).length := ⟨_, rfl⟩
    have hug : IsN w0 (new w.heap.size) (.slice Ag (limbs (gcdV xs)).length cg) (gcdV xs) := ⟨Ag, cg, rfl, ug⟩
    rw [← hG] at hgp hgz hgz2 hug ⊢
    clear ug hG
    go_wp2
    go_loopw [4, 5] (fun v i wr => ∃ (k : Nat) (xv : List Value), k ≤ N ∧ i = .int .i64 (k : Int) ∧ wr.ownsRow w0.heap.size 27 2 v k xv ∧ Hid (CellsF wr w0.heap.size v xv k rs) ∧ Below w0.heap.size w0 wr) (fun _ i _ => N - (intOf i).toNat)
    case atStart => exact ⟨0, [], Nat.zero_le _, rfl, World.ownsRow_nil _ _ _ _, Lib.hid (CellsF.zero _ _ _ _ _), Below.refl _ _⟩
    case round =>
      obtain ⟨k, xv, hk, rfl, hown, hcells, hbel⟩ := hrel
      by_cases hlt : k < N
      · obtain ⟨n1, n2, n3⟩ := Hn.out
        have hkp : k < ps.length := by omega
        have hkx : k < xs.length := by omega
        have hkr : k < rs.length := by omega
        obtain ⟨b, o, B1, d1, rfl, hbb, c0, c1, hu⟩ := (ha.below (from_ hc0 hbel)).at hkp
        have na := hx.at k hkx hkp
        have nr := h3.at k (by rw [List.length_map]; omega) hkr
        rw [List.getElem_map] at nr
        have hdv := gcdV_dvd (List.getElem_mem hkx)
        have e1 : rs[k].1 = ps[k].1 := by rw [nr.1, na.1]; exact tq_sgn Hg0.out hdv
        have e2 : rs[k].2 = limbs ((xs[k]).natAbs / gcdV xs) := by rw [nr.2, tq_abs]
        have hp1 := hK1 ps[k] (List.getElem_mem hkp)
        have hov := over_good (na.isN hu) (hug.below hbel) (by have := Hg0.out; omega) (by rw [← na.len]; omega) (by have := Hgl.out; omega)
        have hgr : Hid (∀ (W W' : World) (v v' : Value) (Av : Option Addr) (cv : Nat), CellsF W w0.heap.size v xv k rs → xv.length = k * 2 → W.grownBy W' v.ownBlock → Fresh W v v' → U64s W (newX w0.heap.size v) Av cv rs[k].2 → CellsF W' w0.heap.size v' (xv ++ [.bool rs[k].1, .slice Av rs[k].2.length cv]) (k + 1) rs) := fun W W' v v' Av cv g1 g2 g3 g4 g5 => g1.grow g2 g3 g4 hkr g5
        rw [e1, e2] at hgr
        have Hov := Lib.hid hov
        have HO := Lib.hid hown
        have HC := Lib.hid hcells.out
        have HL := Lib.hid (own_lt hown)
        have Hxl := Lib.hid hown.1
        clear hu hown hcells na nr hdv e1 e2 hov n1 n2 n3 hp1
        generalize ps[k].1 = s at *
        generalize ps[k].2 = l at *
        generalize (xs[k]).natAbs / gcdV xs = q at *
        go_wp2_with fail
        refine Hov.out.mono ?_
        rintro e wa ⟨_, v2, rfl, ⟨Av, cv, rfl, uv⟩, -, hc⟩
        replace c0 := keepC hc c0
        replace HO := Lib.hid (own_below HO.out hc)
        replace HC := Lib.hid (HC.out.below hc)
        have HB := Lib.hid (from_ hbel hc)
        have HWR := Lib.hid hbel.size
        have HZ := Lib.hid HB.out.size
        clear hc c1 Hov
        go_wp2_with (at_builtin; go_loud (refine wpList_appF _ rfl _ _ 23 rfl w0.heap.size 27 i0 (.agg #[.bool false, .slice none 0 0]) 2 32 Tryz.underlying23 hi hz0 hz1 hz2 rfl (by omega) (by omega) _ _ _ rfl (HO.out.alloc _) wa.heap.size [.bool s, .slice Av (limbs q).length cv] rfl rfl two_news (by simp [Value.oneCell']) (by omega) (by have := HZ.out; simp; omega) ?_); intro v' wb hown' hgrow hfresh)
        have hal := (Below.refl wa.heap.size wa).alloc (Nat.le_refl _) (.cells #[.bool s, .slice Av (limbs q).length cv] 27)
        have hgB : Below w0.heap.size (wa.alloc (.cells #[.bool s, .slice Av (limbs q).length cv] 27)) wb := (Below.refl w0.heap.size _).grown hgrow (by have := HZ.out; simp; omega) (fun q hq => (HO.out.lt q hq).1)
        have HF := Lib.hid (hgr.out _ _ _ _ _ _ (HC.out.below hal) Hxl.out hgrow hfresh ((uv.below hal).toX HL.out HWR.out))
        have HB2 := Lib.hid ((from_ HB.out hal).trans hgB)
        clear hal hgB
        go_roundw
        case rel => exact ⟨k + 1, _, by omega, by go_num, hown', HF, HB2.out⟩
        case measure => simp [intOf]; omega
      · obtain rfl : k = N := by omega
        have hr5 := Hn.out.2.2
        have hc9 := hcells.out
        rw [← hr5] at hc9 hown
        have hfin := hc9.fin hown
        obtain ⟨A2, c2, rfl⟩ := own_shape hown
        have Hfin := Lib.hid (show IsVec wr (new w.heap.size) _ rs from let ⟨a, b, e, h⟩ := hfin; ⟨a, b, e, h.mono (new_le hc0.size)⟩)
        have HB := Lib.hid (from_ hc0 hbel)
        clear hfin hcells hown hc9
        go_wp2
        go_ret
        exact ⟨_, rfl, Hfin.out, HB.out⟩

end Go.Proofs.YtdhgjkihghndiaaGreat

namespace Go.Proofs.YtdhgjkihghndiaaGreat
open Go.RowKit
set_option linter.unusedVariables false
set_option linter.unusedSimpArgs false

set_option maxRecDepth 100000 in
set_option maxHeartbeats 1000000 in
theorem r7add_err {w : World} {Z Y : Zone} {A B : Option Addr} {c d : Nat} {ps qs : List (Bool × List Nat)} (ha : VecAt w Z A c ps) (hb : VecAt w Y B d qs) {E : Int} (hE : errVs [ps, qs] = E) (hE2 : E = 8 ∨ E = 70) :
    Calls Tryz.prog 9 #[.slice A ps.length c, .slice B qs.length d] w fun e w' => e = .returned (.tuple #[.slice none 0 0, .int .i64 E]) ∧ Below w.heap.size w w' := by
  have hT := r7two_any ha hb
  rw [hE] at hT
  have HT := Lib.hid hT
  have hla := ha.len
  have hlb := hb.len
  clear hT ha hb hE
  generalize ps.length = n at *
  generalize qs.length = m at *
  rcases hE2 with rfl | rfl
  all_goals
    go_enter Tryz.func9, Tryz.ntmps9
    go_wp2_with fail
    refine HT.out.mono ?_
    rintro e w1 ⟨rfl, hc⟩
    go_wp2
    go_ret2
    exact ⟨rfl, hc⟩

set_option maxRecDepth 100000 in
set_option maxHeartbeats 1000000 in
theorem r7prime_err {w : World} {Z : Zone} {A : Option Addr} {c : Nat} {ps : List (Bool × List Nat)} (ha : VecAt w Z A c ps) (ho : okV ps = false) :
    Calls Tryz.prog 17 #[.slice A ps.length c] w fun e w' => e = .returned (.tuple #[.slice none 0 0, .int .i64 8]) ∧ Below w.heap.size w w' := by
  have hM := r7may_any ha
  rw [ho] at hM
  have HM := Lib.hid hM
  have hl := ha.len
  clear hM ha ho
  generalize ps.length = n at *
  go_enter Tryz.func17, Tryz.ntmps17
  go_wp2_with fail
  refine HM.out.mono ?_
  rintro e w1 ⟨rfl, hc⟩
  go_wp2
  go_ret2
  exact ⟨rfl, hc⟩


set_option maxRecDepth 100000 in
set_option maxHeartbeats 1000000 in
theorem r7prime_ok {w : World} {Z : Zone} {A : Option Addr} {c K : Nat} {ps rs : List (Bool × List Nat)} {xs : List Int} (ha : VecAt w Z A c ps) (hx : NmV xs ps) (hl : ps.length ≤ 64) (hK1 : ∀ p ∈ ps, p.2.length ≤ K) (hK : K ≤ 1000) (h3 : NmV (lowV xs) rs) :
    Calls Tryz.prog 17 #[.slice A ps.length c] w fun e w' => ∃ Av cv, e = .returned (.tuple #[.slice Av rs.length cv, .int .i64 0]) ∧ VecAt w' (new w.heap.size) Av cv rs ∧ Below w.heap.size w w' := by
  have hM := r7may_any ha
  rw [hx.okV hl] at hM
  have HC : Hid (∀ W, Below w.heap.size w W → Calls Tryz.prog 47 #[.slice A ps.length c] W fun e w' => ∃ v, e = .returned v ∧ IsVec w' (new W.heap.size) v rs ∧ Below W.heap.size W w') := fun W h => r7low_n (ha.below h) hx hl hK1 hK h3
  have HM := Lib.hid hM
  clear hM ha hK1 hx h3 hl
  generalize ps.length = n at *
  go_enter Tryz.func17, Tryz.ntmps17
  go_wp2_with fail
  refine HM.out.mono ?_
  rintro e w1 ⟨rfl, hc⟩
  go_wp2_with fail
  refine (HC.out _ hc).mono ?_
  rintro e w2 ⟨_, rfl, ⟨Av, cv, rfl, hv⟩, hc2⟩
  have hB := from_ hc hc2
  have HV := Lib.hid (hv.mono (Y := new w.heap.size) (new_le hc.size))
  clear hv
  go_wp2
  go_ret2
  exact ⟨_, _, rfl, HV.out, hB⟩

set_option maxRecDepth 100000 in
set_option maxHeartbeats 1000000 in
theorem r7add_ok {w : World} {Z Y : Zone} {A B : Option Addr} {c d K : Nat} {ps qs rs : List (Bool × List Nat)} {xs ys : List Int} (ha : VecAt w Z A c ps) (hb : VecAt w Y B d qs) (hx : NmV xs ps) (hy : NmV ys qs) (hlen : ps.length = qs.length) (hl : ps.length ≤ 64) (hK1 : ∀ p ∈ ps, p.2.length ≤ K) (hK2 : ∀ p ∈ qs, p.2.length ≤ K) (hK : K ≤ 1999) (h3 : NmV (List.zipWith (· + ·) xs ys) rs) :
    Calls Tryz.prog 9 #[.slice A ps.length c, .slice B qs.length d] w fun e w' => ∃ Av cv, e = .returned (.tuple #[.slice Av rs.length cv, .int .i64 0]) ∧ VecAt w' (new w.heap.size) Av cv rs ∧ Below w.heap.size w w' := by
  have hT := r7two_any ha hb
  have e0 : errVs [ps, qs] = 0 := by rw [errVs_two, if_pos ⟨hx.okV hl, hy.okV (by omega)⟩, if_pos hlen]
  rw [e0] at hT
  have l1 : limbs 1 = [1] := limbs_one (by omega) (by omega)
  have no : Nm 1 false [1] := ⟨rfl, l1.symm⟩
  have hzz : List.zipWith (fun x y => (1 : Int) * x + 1 * y) xs ys = List.zipWith (· + ·) xs ys := by
    congr 1
    funext x y
    omega
  have CO : Hid (∀ W, Calls Tryz.prog 37 #[.int .i64 1] W fun e w' => ∃ Av cv, e = .returned (.agg #[.bool false, .slice Av 1 cv]) ∧ U64s w' (new W.heap.size) Av cv [1] ∧ Below W.heap.size W w') := fun W => by
    refine (r05of_any (w := W) (n := 1) (by omega)).mono ?_
    rintro e w' ⟨v, rfl, hv, hb⟩
    obtain ⟨Av, cv, rfl, hu⟩ := no.of hv
    exact ⟨Av, cv, rfl, hu, hb⟩
  have HC : Hid (∀ W X1 X2 A1 c1 A2 c2, Below w.heap.size w W → U64s W X1 A1 c1 [1] → U64s W X2 A2 c2 [1] → Calls Tryz.prog 36 #[.agg #[.bool false, .slice A1 1 c1], .slice A ps.length c, .agg #[.bool false, .slice A2 1 c2], .slice B qs.length d] W fun e w' => ∃ v, e = .returned v ∧ IsVec w' (new W.heap.size) v rs ∧ Below W.heap.size W w') := fun W X1 X2 A1 c1 A2 c2 h g1 g2 => by
    have h9 := r7mixed_n (K := K + 1) (lm := [1]) (ln := [1]) (ha.below h) (hb.below h) g1 g2 hx hy no no hlen hl (fun p hp => Nat.le_succ_of_le (hK1 p hp)) (fun p hp => Nat.le_succ_of_le (hK2 p hp)) (by simp) (by simp) (by omega) (by rw [hzz]; exact h3)
    exact h9
  have HT := Lib.hid hT
  clear hT ha hb hK1 hK2 hx hy h3 hl e0 hzz no l1 hlen
  generalize ps.length = n at *
  generalize qs.length = m at *
  go_enter Tryz.func9, Tryz.ntmps9
  go_wp2_with fail
  refine HT.out.mono ?_
  rintro e w1 ⟨rfl, hc⟩
  go_wp2_with fail
  refine (CO.out _).mono ?_
  rintro e w2 ⟨A1, c1, rfl, v1, hc2⟩
  have hB2 := from_ hc hc2
  go_wp2_with fail
  refine (CO.out _).mono ?_
  rintro e w3 ⟨A2, c2, rfl, v2, hc3⟩
  have hB3 := from_ hB2 hc3
  replace v1 := v1.below hc3
  go_wp2_with fail
  refine (HC.out _ _ _ _ _ _ _ hB3 v1 v2).mono ?_
  rintro e w4 ⟨_, rfl, ⟨Av, cv, rfl, hv⟩, hc4⟩
  have hB := from_ hB3 hc4
  have HV := Lib.hid (hv.mono (Y := new w.heap.size) (new_le hB3.size))
  clear hv v1 v2
  go_wp2
  go_ret2
  exact ⟨_, _, rfl, HV.out, hB⟩

set_option maxRecDepth 100000 in
set_option maxHeartbeats 1000000 in
theorem r7scale_err {w : World} {Z Y : Zone} {A B : Option Addr} {c d : Nat} {ps : List (Bool × List Nat)} {t : Bool} {l : List Nat} (ha : VecAt w Z A c ps) (hb : U64s w Y B d l) (hE : ¬ (okV ps = true ∧ okI t l = true)) :
    Calls Tryz.prog 11 #[.slice A ps.length c, .agg #[.bool t, .slice B l.length d]] w fun e w' => e = .returned (.tuple #[.slice none 0 0, .int .i64 8]) ∧ Below w.heap.size w w' := by
  have hB0 : Below w.heap.size w (w.alloc (.cells #[.bool t, .slice B l.length d] 27)) := (Below.refl _ w).alloc (Nat.le_refl _) _
  obtain ⟨b0, b1, _, _, _⟩ := Box.new w (.bool t) (.slice B l.length d) 27
  have hM := r7may_any (ha.below hB0)
  have hN : Hid (∀ W, Below w.heap.size w W → Calls Tryz.prog 41 #[.agg #[.bool t, .slice B l.length d]] W fun e w' => e = .returned (.bool (okI t l)) ∧ Below W.heap.size W w') := fun W h => r5may_any (a := .agg #[.bool t, .slice B l.length d]) ⟨_, rfl, B, d, rfl, hb.below h⟩
  have hcase : okV ps = false ∨ (okV ps = true ∧ okI t l = false) := by
    cases h1 : okV ps
    · exact .inl rfl
    · cases h2 : okI t l
      · exact .inr ⟨rfl, rfl⟩
      · exact absurd ⟨h1, h2⟩ hE
  have HM := Lib.hid hM
  have HB0 := Lib.hid hB0
  have hla := ha.len
  clear hM hE ha hb hB0
  generalize okV ps = o1 at *
  generalize okI t l = o2 at *
  generalize ps.length = n at *
  generalize l.length = m at *
  rcases hcase with rfl | ⟨rfl, rfl⟩
  · go_enter Tryz.func11, Tryz.ntmps11
    go_wp2_with fail
    refine HM.out.mono ?_
    rintro e w1 ⟨rfl, hc⟩
    have hB1 := from_ HB0.out hc
    go_wp2
    go_ret2
    exact ⟨rfl, hB1⟩
  · go_enter Tryz.func11, Tryz.ntmps11
    go_wp2_with fail
    refine HM.out.mono ?_
    rintro e w1 ⟨rfl, hc⟩
    replace b0 := keepC hc b0
    replace b1 := keepC hc b1
    have hB1 := from_ HB0.out hc
    go_wp2_with fail
    refine (hN.out _ hB1).mono ?_
    rintro e w2 ⟨rfl, hc2⟩
    have hB2 := from_ hB1 hc2
    go_wp2
    go_ret2
    exact ⟨rfl, hB2⟩

set_option maxRecDepth 100000 in
set_option maxHeartbeats 1000000 in
theorem r7scale_ok {w : World} {Z Y : Zone} {A B : Option Addr} {c d K : Nat} {ps rs : List (Bool × List Nat)} {xs : List Int} {y : Int} {t : Bool} {l : List Nat} (ha : VecAt w Z A c ps) (hb : U64s w Y B d l) (hx : NmV xs ps) (hy : Nm y t l) (hl : ps.length ≤ 64) (hK1 : ∀ p ∈ ps, p.2.length ≤ K) (hK2 : l.length ≤ K) (hK : K ≤ 2000) (h3 : NmV (xs.map fun x => x * y) rs) :
    Calls Tryz.prog 11 #[.slice A ps.length c, .agg #[.bool t, .slice B l.length d]] w fun e w' => ∃ Av cv, e = .returned (.tuple #[.slice Av rs.length cv, .int .i64 0]) ∧ VecAt w' (new w.heap.size) Av cv rs ∧ Below w.heap.size w w' := by
  have hB0 : Below w.heap.size w (w.alloc (.cells #[.bool t, .slice B l.length d] 27)) := (Below.refl _ w).alloc (Nat.le_refl _) _
  obtain ⟨b0, b1, _, _, _⟩ := Box.new w (.bool t) (.slice B l.length d) 27
  have hM := r7may_any (ha.below hB0)
  rw [hx.okV hl] at hM
  have oI : okI t l = true := hy.enc.1
  have hN : Hid (∀ W, Below w.heap.size w W → Calls Tryz.prog 41 #[.agg #[.bool t, .slice B l.length d]] W fun e w' => e = .returned (.bool true) ∧ Below W.heap.size W w') := fun W h => by
    have := r5may_any (w := W) (Z := Y) (a := .agg #[.bool t, .slice B l.length d]) (s := t) (l := l) ⟨_, rfl, B, d, rfl, hb.below h⟩
    rwa [oI] at this
  have n0 : Nm 0 false [] := ⟨rfl, (limbs_eq_nil.2 rfl).symm⟩
  have hzz : List.zipWith (fun x z => y * x + 0 * z) xs xs = xs.map fun x => x * y := by
    rw [List.zipWith_self]
    congr 1
    funext x
    rw [Int.zero_mul, Int.add_zero, Int.mul_comm]
  have HC : Hid (∀ W, Below w.heap.size w W → Calls Tryz.prog 36 #[.agg #[.bool t, .slice B l.length d], .slice A ps.length c, .agg #[.bool false, .slice none 0 0], .slice A ps.length c] W fun e w' => ∃ v, e = .returned v ∧ IsVec w' (new W.heap.size) v rs ∧ Below W.heap.size W w') := fun W h => by
    have h9 := r7mixed_n (w := W) (ln := []) (Am := B) (cm := d) (sn := false) (An := none) (cn := 0) (Z4 := old) (ha.below h) (ha.below h) (hb.below h) (U64s.nil _ _) hx hx hy n0 rfl hl hK1 hK1 hK2 (by simp) hK (by rw [hzz]; exact h3)
    exact h9
  have HM := Lib.hid hM
  have HB0 := Lib.hid hB0
  clear hM ha hb hB0 hx hy hl hK1 hK2 h3 hzz n0 oI
  generalize ps.length = n at *
  generalize l.length = m at *
  go_enter Tryz.func11, Tryz.ntmps11
  go_wp2_with fail
  refine HM.out.mono ?_
  rintro e w1 ⟨rfl, hc⟩
  replace b0 := keepC hc b0
  replace b1 := keepC hc b1
  have hB1 := from_ HB0.out hc
  go_wp2_with fail
  refine (hN.out _ hB1).mono ?_
  rintro e w2 ⟨rfl, hc2⟩
  replace b0 := keepC hc2 b0
  replace b1 := keepC hc2 b1
  have hB2 := from_ hB1 hc2
  go_wp2_with fail
  refine (HC.out _ hB2).mono ?_
  rintro e w3 ⟨_, rfl, ⟨Av, cv, rfl, hv⟩, hc3⟩
  have hB := from_ hB2 hc3
  have HV := Lib.hid (hv.mono (Y := new w.heap.size) (new_le hB2.size))
  clear hv
  go_wp2
  go_ret2
  exact ⟨_, _, rfl, HV.out, hB⟩

set_option maxRecDepth 100000 in
set_option maxHeartbeats 1000000 in
theorem r7mix_err {w : World} {Z Y Z3 Z4 : Zone} {A B Am An : Option Addr} {c d cm cn : Nat} {ps qs : List (Bool × List Nat)} {sm sn : Bool} {lm ln : List Nat} {E : Int} (ha : VecAt w Z A c ps) (hb : VecAt w Y B d qs) (um : U64s w Z3 Am cm lm) (un : U64s w Z4 An cn ln) (hE : errM sm lm sn ln ps qs = E) (hE2 : E = 8 ∨ E = 70) :
    Calls Tryz.prog 13 #[.agg #[.bool sm, .slice Am lm.length cm], .slice A ps.length c, .agg #[.bool sn, .slice An ln.length cn], .slice B qs.length d] w fun e w' => e = .returned (.tuple #[.slice none 0 0, .int .i64 E]) ∧ Below w.heap.size w w' := by
  obtain ⟨bM, bN, hB0⟩ := boxes2 w (.bool sm) (.slice Am lm.length cm) (.bool sn) (.slice An ln.length cn) 27
  obtain ⟨b0, b1, _, _, _⟩ := bM
  obtain ⟨e0, e1, _, _, _⟩ := bN
  have hM1 := r5may_any (a := .agg #[.bool sm, .slice Am lm.length cm]) ⟨_, rfl, Am, cm, rfl, um.below hB0⟩
  have hM2 : Hid (∀ W, Below w.heap.size w W → Calls Tryz.prog 41 #[.agg #[.bool sn, .slice An ln.length cn]] W fun e w' => e = .returned (.bool (okI sn ln)) ∧ Below W.heap.size W w') := fun W h => r5may_any (a := .agg #[.bool sn, .slice An ln.length cn]) ⟨_, rfl, An, cn, rfl, un.below h⟩
  have hT : Hid (∀ W, Below w.heap.size w W → Calls Tryz.prog 32 #[.slice A ps.length c, .slice B qs.length d] W fun e w' => e = .returned (.int .i64 (errVs [ps, qs])) ∧ Below W.heap.size W w') := fun W h => r7two_any (ha.below h) (hb.below h)
  have hcase : (okI sm lm = false ∧ E = 8) ∨ (okI sm lm = true ∧ okI sn ln = false ∧ E = 8) ∨ (okI sm lm = true ∧ okI sn ln = true ∧ errVs [ps, qs] = E) := by
    rw [← hE]
    unfold errM
    cases okI sm lm <;> cases okI sn ln <;> simp
  have HM1 := Lib.hid hM1
  have HB0 := Lib.hid hB0
  have hla := ha.len
  have hlb := hb.len
  clear hM1 hE ha hb um un hB0
  generalize okI sm lm = o1 at *
  generalize okI sn ln = o2 at *
  generalize errVs [ps, qs] = E2 at *
  generalize ps.length = n at *
  generalize qs.length = m at *
  generalize lm.length = n1 at *
  generalize ln.length = n2 at *
  rcases hcase with ⟨rfl, rfl⟩ | ⟨rfl, rfl, rfl⟩ | ⟨rfl, rfl, rfl⟩
  · go_enter Tryz.func13, Tryz.ntmps13
    go_wp2_with fail
    refine HM1.out.mono ?_
    rintro e w1 ⟨rfl, hc⟩
    have hB1 := from_ HB0.out hc
    go_wp2
    go_ret2
    exact ⟨rfl, hB1⟩
  · go_enter Tryz.func13, Tryz.ntmps13
    go_wp2_with fail
    refine HM1.out.mono ?_
    rintro e w1 ⟨rfl, hc⟩
    replace b0 := keepC hc b0
    replace b1 := keepC hc b1
    replace e0 := keepC hc e0
    replace e1 := keepC hc e1
    have hB1 := from_ HB0.out hc
    clear hc
    go_wp2_with fail
    refine (hM2.out _ hB1).mono ?_
    rintro e w2 ⟨rfl, hc⟩
    have hB2 := from_ hB1 hc
    go_wp2
    go_ret2
    exact ⟨rfl, hB2⟩
  · rcases hE2 with rfl | rfl
    all_goals
      go_enter Tryz.func13, Tryz.ntmps13
      go_wp2_with fail
      refine HM1.out.mono ?_
      rintro e w1 ⟨rfl, hc⟩
      replace b0 := keepC hc b0
      replace b1 := keepC hc b1
      replace e0 := keepC hc e0
      replace e1 := keepC hc e1
      have hB1 := from_ HB0.out hc
      clear hc
      go_wp2_with fail
      refine (hM2.out _ hB1).mono ?_
      rintro e w2 ⟨rfl, hc⟩
      have hB2 := from_ hB1 hc
      clear hc
      go_wp2_with fail
      refine (hT.out _ hB2).mono ?_
      rintro e w3 ⟨rfl, hc⟩
      have hB3 := from_ hB2 hc
      go_wp2
      go_ret2
      exact ⟨rfl, hB3⟩

set_option maxRecDepth 100000 in
set_option maxHeartbeats 1000000 in
theorem r7mix_ok {w : World} {Z Y Z3 Z4 : Zone} {A B Am An : Option Addr} {c d cm cn K : Nat} {ps qs rs : List (Bool × List Nat)} {sm sn : Bool} {lm ln : List Nat} {xs ys : List Int} {zm zn : Int} (ha : VecAt w Z A c ps) (hb : VecAt w Y B d qs) (um : U64s w Z3 Am cm lm) (un : U64s w Z4 An cn ln) (hx : NmV xs ps) (hy : NmV ys qs) (hm : Nm zm sm lm) (hn : Nm zn sn ln) (hlen : ps.length = qs.length) (hl : ps.length ≤ 64) (hK1 : ∀ p ∈ ps, p.2.length ≤ K) (hK2 : ∀ p ∈ qs, p.2.length ≤ K) (hK3 : lm.length ≤ K) (hK4 : ln.length ≤ K) (hK : K ≤ 2000) (h3 : NmV (List.zipWith (fun x y => zm * x + zn * y) xs ys) rs) :
    Calls Tryz.prog 13 #[.agg #[.bool sm, .slice Am lm.length cm], .slice A ps.length c, .agg #[.bool sn, .slice An ln.length cn], .slice B qs.length d] w fun e w' => ∃ Av cv, e = .returned (.tuple #[.slice Av rs.length cv, .int .i64 0]) ∧ VecAt w' (new w.heap.size) Av cv rs ∧ Below w.heap.size w w' := by
  obtain ⟨bM, bN, hB0⟩ := boxes2 w (.bool sm) (.slice Am lm.length cm) (.bool sn) (.slice An ln.length cn) 27
  obtain ⟨b0, b1, _, _, _⟩ := bM
  obtain ⟨e0, e1, _, _, _⟩ := bN
  have hM1 := r5may_any (a := .agg #[.bool sm, .slice Am lm.length cm]) ⟨_, rfl, Am, cm, rfl, um.below hB0⟩
  have hM2 : Hid (∀ W, Below w.heap.size w W → Calls Tryz.prog 41 #[.agg #[.bool sn, .slice An ln.length cn]] W fun e w' => e = .returned (.bool (okI sn ln)) ∧ Below W.heap.size W w') := fun W h => r5may_any (a := .agg #[.bool sn, .slice An ln.length cn]) ⟨_, rfl, An, cn, rfl, un.below h⟩
  have hT : Hid (∀ W, Below w.heap.size w W → Calls Tryz.prog 32 #[.slice A ps.length c, .slice B qs.length d] W fun e w' => e = .returned (.int .i64 (errVs [ps, qs])) ∧ Below W.heap.size W w') := fun W h => r7two_any (ha.below h) (hb.below h)
  have ev : errVs [ps, qs] = 0 := by rw [errVs_two, if_pos ⟨hx.okV hl, hy.okV (by omega)⟩, if_pos hlen]
  rw [hm.enc.1] at hM1
  rw [hn.enc.1] at hM2
  rw [ev] at hT
  have HC : Hid (∀ W, Below w.heap.size w W → Calls Tryz.prog 36 #[.agg #[.bool sm, .slice Am lm.length cm], .slice A ps.length c, .agg #[.bool sn, .slice An ln.length cn], .slice B qs.length d] W fun e w' => ∃ v, e = .returned v ∧ IsVec w' (new W.heap.size) v rs ∧ Below W.heap.size W w') := fun W h => r7mixed_n (ha.below h) (hb.below h) (um.below h) (un.below h) hx hy hm hn hlen hl hK1 hK2 hK3 hK4 hK h3
  have HM1 := Lib.hid hM1
  have HB0 := Lib.hid hB0
  clear hM1 ha hb um un hB0 hx hy hm hn hl hK1 hK2 hK3 hK4 h3 ev hlen
  generalize ps.length = n at *
  generalize qs.length = m at *
  generalize lm.length = n1 at *
  generalize ln.length = n2 at *
  go_enter Tryz.func13, Tryz.ntmps13
  go_wp2_with fail
  refine HM1.out.mono ?_
  rintro e w1 ⟨rfl, hc⟩
  replace b0 := keepC hc b0
  replace b1 := keepC hc b1
  replace e0 := keepC hc e0
  replace e1 := keepC hc e1
  have hB1 := from_ HB0.out hc
  clear hc
  go_wp2_with fail
  refine (hM2.out _ hB1).mono ?_
  rintro e w2 ⟨rfl, hc⟩
  replace b0 := keepC hc b0
  replace b1 := keepC hc b1
  replace e0 := keepC hc e0
  replace e1 := keepC hc e1
  have hB2 := from_ hB1 hc
  clear hc
  go_wp2_with fail
  refine (hT.out _ hB2).mono ?_
  rintro e w3 ⟨rfl, hc⟩
  replace b0 := keepC hc b0
  replace b1 := keepC hc b1
  replace e0 := keepC hc e0
  replace e1 := keepC hc e1
  have hB3 := from_ hB2 hc
  clear hc
  go_wp2_with fail
  refine (HC.out _ hB3).mono ?_
  rintro e w4 ⟨_, rfl, ⟨Av, cv, rfl, hv⟩, hc⟩
  have hB := from_ hB3 hc
  have HV := Lib.hid (hv.mono (Y := new w.heap.size) (new_le hB3.size))
  clear hv
  go_wp2
  go_ret2
  exact ⟨_, _, rfl, HV.out, hB⟩
end Go.Proofs.YtdhgjkihghndiaaGreat

namespace Go.Proofs.YtdhgjkihghndiaaGreat
open Go.RowKit
set_option linter.unusedVariables false
set_option linter.unusedSimpArgs false

theorem pair_Dot (ps qs : List (Bool × List Nat)) (k1 : ∀ p ∈ ps, p.2.length ≤ 3) (k2 : ∀ p ∈ qs, p.2.length ≤ 3) (s1 : ∀ p ∈ ps, Small p.2) (s2 : ∀ p ∈ qs, Small p.2) : ∃ (r : Bool) (m : List Nat) (E : Int), (∀ (w : World) (Z Y : Zone) (A B : Option Addr) (c d : Nat), VecAt w Z A c ps → VecAt w Y B d qs → Calls Tryz.prog 6 #[.slice A ps.length c, .slice B qs.length d] w fun e w' => ∃ Av cv, e = .returned (.tuple #[.agg #[.bool r, .slice Av m.length cv], .int .i64 E]) ∧ U64s w' (new w.heap.size) Av cv m ∧ Below w.heap.size w w') ∧ (∀ (w : World) (Z Y : Zone) (A B : Option Addr) (c d : Nat), VecAt w Z A c ps → VecAt w Y B d qs → Calls Tryz.prog 7 #[.slice A ps.length c, .slice B qs.length d] w fun e w' => ∃ Av cv, e = .returned (.tuple #[.agg #[.bool r, .slice Av m.length cv], .int .i64 E]) ∧ U64s w' (new w.heap.size) Av cv m ∧ Below w.heap.size w w') := by
  rcases errVs_vals ps qs with h | h
  · obtain ⟨h1, h2, h3⟩ := errVs_zero h
    exact ⟨_, _, 0, fun w Z Y A B c d ha hb => vdot_n ha hb (NmV.ok h1 s1) (NmV.ok h2 s2) h3 (okV_len h1) k1 k2 (by omega) (Nm.mk' _), fun w Z Y A B c d ha hb => r7dot_ok ha hb (NmV.ok h1 s1) (NmV.ok h2 s2) h3 (okV_len h1) k1 k2 (by omega) (Nm.mk' _)⟩
  · exact ⟨false, [], errVs [ps, qs], fun w Z Y A B c d ha hb => (vdot_err ha hb rfl h).mono (fun e w' ⟨h1, h2⟩ => ⟨none, 0, h1, U64s.nil _ _, h2⟩), fun w Z Y A B c d ha hb => (r7dot_err ha hb rfl h).mono (fun e w' ⟨h1, h2⟩ => ⟨none, 0, h1, U64s.nil _ _, h2⟩)⟩
theorem pair_VAdd (ps qs : List (Bool × List Nat)) (k1 : ∀ p ∈ ps, p.2.length ≤ 3) (k2 : ∀ p ∈ qs, p.2.length ≤ 3) (s1 : ∀ p ∈ ps, Small p.2) (s2 : ∀ p ∈ qs, Small p.2) : ∃ (rs : List (Bool × List Nat)) (E : Int), (∀ (w : World) (Z Y : Zone) (A B : Option Addr) (c d : Nat), VecAt w Z A c ps → VecAt w Y B d qs → Calls Tryz.prog 8 #[.slice A ps.length c, .slice B qs.length d] w fun e w' => ∃ Av cv, e = .returned (.tuple #[.slice Av rs.length cv, .int .i64 E]) ∧ VecAt w' (new w.heap.size) Av cv rs ∧ Below w.heap.size w w') ∧ (∀ (w : World) (Z Y : Zone) (A B : Option Addr) (c d : Nat), VecAt w Z A c ps → VecAt w Y B d qs → Calls Tryz.prog 9 #[.slice A ps.length c, .slice B qs.length d] w fun e w' => ∃ Av cv, e = .returned (.tuple #[.slice Av rs.length cv, .int .i64 E]) ∧ VecAt w' (new w.heap.size) Av cv rs ∧ Below w.heap.size w w') := by
  rcases errVs_vals ps qs with h | h
  · obtain ⟨h1, h2, h3⟩ := errVs_zero h
    exact ⟨_, 0, fun w Z Y A B c d ha hb => vadd_n ha hb (NmV.ok h1 s1) (NmV.ok h2 s2) h3 (okV_len h1) k1 k2 (by omega) (NmV.mk' _), fun w Z Y A B c d ha hb => r7add_ok ha hb (NmV.ok h1 s1) (NmV.ok h2 s2) h3 (okV_len h1) k1 k2 (by omega) (NmV.mk' _)⟩
  · exact ⟨[], errVs [ps, qs], fun w Z Y A B c d ha hb => (vadd_err ha hb rfl h).mono (fun e w' ⟨h1, h2⟩ => ⟨none, 0, h1, VecAt.nil _ _, h2⟩), fun w Z Y A B c d ha hb => (r7add_err ha hb rfl h).mono (fun e w' ⟨h1, h2⟩ => ⟨none, 0, h1, VecAt.nil _ _, h2⟩)⟩
theorem pair_VCmp (ps qs : List (Bool × List Nat)) (k1 : ∀ p ∈ ps, p.2.length ≤ 3) (k2 : ∀ p ∈ qs, p.2.length ≤ 3) (s1 : ∀ p ∈ ps, Small p.2) (s2 : ∀ p ∈ qs, Small p.2) : ∃ (g E : Int), (∀ (w : World) (Z Y : Zone) (A B : Option Addr) (c d : Nat), VecAt w Z A c ps → VecAt w Y B d qs → Calls Tryz.prog 18 #[.slice A ps.length c, .slice B qs.length d] w fun e w' => e = .returned (.tuple #[.int .i64 g, .int .i64 E]) ∧ Below w.heap.size w w') ∧ (∀ (w : World) (Z Y : Zone) (A B : Option Addr) (c d : Nat), VecAt w Z A c ps → VecAt w Y B d qs → Calls Tryz.prog 19 #[.slice A ps.length c, .slice B qs.length d] w fun e w' => e = .returned (.tuple #[.int .i64 g, .int .i64 E]) ∧ Below w.heap.size w w') := by
  rcases errVs_vals ps qs with h | h
  · obtain ⟨h1, h2, h3⟩ := errVs_zero h
    exact ⟨_, 0, fun w Z Y A B c d ha hb => vcmp_n ha hb (NmV.ok h1 s1) (NmV.ok h2 s2) h3 (okV_len h1) k1 k2 (by omega) rfl, fun w Z Y A B c d ha hb => r7cmp_ok ha hb (NmV.ok h1 s1) (NmV.ok h2 s2) h3 (okV_len h1) k1 k2 (by omega) rfl⟩
  · exact ⟨0, errVs [ps, qs], fun w Z Y A B c d ha hb => vcmp_err ha hb rfl h, fun w Z Y A B c d ha hb => r7cmp_err ha hb rfl h⟩
theorem pair_Content (ps : List (Bool × List Nat)) (k1 : ∀ p ∈ ps, p.2.length ≤ 3) (s1 : ∀ p ∈ ps, Small p.2) : ∃ (m : List Nat) (E : Int), (∀ (w : World) (Z : Zone) (A : Option Addr) (c : Nat), VecAt w Z A c ps → Calls Tryz.prog 14 #[.slice A ps.length c] w fun e w' => ∃ Av cv, e = .returned (.tuple #[.slice Av m.length cv, .int .i64 E]) ∧ U64s w' (new w.heap.size) Av cv m ∧ Below w.heap.size w w') ∧ (∀ (w : World) (Z : Zone) (A : Option Addr) (c : Nat), VecAt w Z A c ps → Calls Tryz.prog 15 #[.slice A ps.length c] w fun e w' => ∃ Av cv, e = .returned (.tuple #[.slice Av m.length cv, .int .i64 E]) ∧ U64s w' (new w.heap.size) Av cv m ∧ Below w.heap.size w w') := by
  cases o : okV ps with
  | true => exact ⟨limbs (gcdV (ps.map fun p => zof p.1 p.2)), 0, fun w Z A c ha => (vcontent_n ha (NmV.ok o s1) (okV_len o) k1 (by omega)).mono (fun e w' ⟨v, h1, ⟨Av, cv, h2, h3⟩, h4⟩ => ⟨Av, cv, by rw [h1, h2], h3, h4⟩), fun w Z A c ha => (r7content_ok ha (NmV.ok o s1) (okV_len o) k1 (by omega)).mono (fun e w' ⟨v, h1, ⟨Av, cv, h2, h3⟩, h4⟩ => ⟨Av, cv, by rw [h1, h2], h3, h4⟩)⟩
  | false => exact ⟨[], 8, fun w Z A c ha => (vcontent_err ha o).mono (fun e w' ⟨h1, h2⟩ => ⟨none, 0, h1, U64s.nil _ _, h2⟩), fun w Z A c ha => (r7content_err ha o).mono (fun e w' ⟨h1, h2⟩ => ⟨none, 0, h1, U64s.nil _ _, h2⟩)⟩
theorem pair_Prime (ps : List (Bool × List Nat)) (k1 : ∀ p ∈ ps, p.2.length ≤ 3) (s1 : ∀ p ∈ ps, Small p.2) : ∃ (rs : List (Bool × List Nat)) (E : Int), (∀ (w : World) (Z : Zone) (A : Option Addr) (c : Nat), VecAt w Z A c ps → Calls Tryz.prog 16 #[.slice A ps.length c] w fun e w' => ∃ Av cv, e = .returned (.tuple #[.slice Av rs.length cv, .int .i64 E]) ∧ VecAt w' (new w.heap.size) Av cv rs ∧ Below w.heap.size w w') ∧ (∀ (w : World) (Z : Zone) (A : Option Addr) (c : Nat), VecAt w Z A c ps → Calls Tryz.prog 17 #[.slice A ps.length c] w fun e w' => ∃ Av cv, e = .returned (.tuple #[.slice Av rs.length cv, .int .i64 E]) ∧ VecAt w' (new w.heap.size) Av cv rs ∧ Below w.heap.size w w') := by
  cases o : okV ps with
  | true => exact ⟨_, 0, fun w Z A c ha => vprime_n ha (NmV.ok o s1) (okV_len o) k1 (by omega) (NmV.mk' _), fun w Z A c ha => r7prime_ok ha (NmV.ok o s1) (okV_len o) k1 (by omega) (NmV.mk' _)⟩
  | false => exact ⟨[], 8, fun w Z A c ha => (vprime_err ha o).mono (fun e w' ⟨h1, h2⟩ => ⟨none, 0, h1, VecAt.nil _ _, h2⟩), fun w Z A c ha => (r7prime_err ha o).mono (fun e w' ⟨h1, h2⟩ => ⟨none, 0, h1, VecAt.nil _ _, h2⟩)⟩
theorem pair_Scale (ps : List (Bool × List Nat)) (t : Bool) (l : List Nat) (k1 : ∀ p ∈ ps, p.2.length ≤ 3) (s1 : ∀ p ∈ ps, Small p.2) (k3 : l.length ≤ 3) (s3 : Small l) : ∃ (rs : List (Bool × List Nat)) (E : Int), (∀ (w : World) (Z Y : Zone) (A B : Option Addr) (c d : Nat), VecAt w Z A c ps → U64s w Y B d l → Calls Tryz.prog 10 #[.slice A ps.length c, .agg #[.bool t, .slice B l.length d]] w fun e w' => ∃ Av cv, e = .returned (.tuple #[.slice Av rs.length cv, .int .i64 E]) ∧ VecAt w' (new w.heap.size) Av cv rs ∧ Below w.heap.size w w') ∧ (∀ (w : World) (Z Y : Zone) (A B : Option Addr) (c d : Nat), VecAt w Z A c ps → U64s w Y B d l → Calls Tryz.prog 11 #[.slice A ps.length c, .agg #[.bool t, .slice B l.length d]] w fun e w' => ∃ Av cv, e = .returned (.tuple #[.slice Av rs.length cv, .int .i64 E]) ∧ VecAt w' (new w.heap.size) Av cv rs ∧ Below w.heap.size w w') := by
  by_cases o : okV ps = true ∧ okI t l = true
  · exact ⟨_, 0, fun w Z Y A B c d ha hb => vscale_n ha hb (NmV.ok o.1 s1) (Nm.ok o.2 s3) (okV_len o.1) k1 k3 (by omega) (NmV.mk' _), fun w Z Y A B c d ha hb => r7scale_ok ha hb (NmV.ok o.1 s1) (Nm.ok o.2 s3) (okV_len o.1) k1 k3 (by omega) (NmV.mk' _)⟩
  · exact ⟨[], 8, fun w Z Y A B c d ha hb => (vscale_err ha hb o).mono (fun e w' ⟨h1, h2⟩ => ⟨none, 0, h1, VecAt.nil _ _, h2⟩), fun w Z Y A B c d ha hb => (r7scale_err ha hb o).mono (fun e w' ⟨h1, h2⟩ => ⟨none, 0, h1, VecAt.nil _ _, h2⟩)⟩
theorem pair_Mix (ps qs : List (Bool × List Nat)) (sm : Bool) (lm : List Nat) (sn : Bool) (ln : List Nat) (k1 : ∀ p ∈ ps, p.2.length ≤ 3) (k2 : ∀ p ∈ qs, p.2.length ≤ 3) (s1 : ∀ p ∈ ps, Small p.2) (s2 : ∀ p ∈ qs, Small p.2) (k3 : lm.length ≤ 3) (k4 : ln.length ≤ 3) (s3 : Small lm) (s4 : Small ln) : ∃ (rs : List (Bool × List Nat)) (E : Int), (∀ (w : World) (Z Y Z3 Z4 : Zone) (A B Am An : Option Addr) (c d cm cn : Nat), VecAt w Z A c ps → VecAt w Y B d qs → U64s w Z3 Am cm lm → U64s w Z4 An cn ln → Calls Tryz.prog 12 #[.agg #[.bool sm, .slice Am lm.length cm], .slice A ps.length c, .agg #[.bool sn, .slice An ln.length cn], .slice B qs.length d] w fun e w' => ∃ Av cv, e = .returned (.tuple #[.slice Av rs.length cv, .int .i64 E]) ∧ VecAt w' (new w.heap.size) Av cv rs ∧ Below w.heap.size w w') ∧ (∀ (w : World) (Z Y Z3 Z4 : Zone) (A B Am An : Option Addr) (c d cm cn : Nat), VecAt w Z A c ps → VecAt w Y B d qs → U64s w Z3 Am cm lm → U64s w Z4 An cn ln → Calls Tryz.prog 13 #[.agg #[.bool sm, .slice Am lm.length cm], .slice A ps.length c, .agg #[.bool sn, .slice An ln.length cn], .slice B qs.length d] w fun e w' => ∃ Av cv, e = .returned (.tuple #[.slice Av rs.length cv, .int .i64 E]) ∧ VecAt w' (new w.heap.size) Av cv rs ∧ Below w.heap.size w w') := by
  have hv : errM sm lm sn ln ps qs = 0 ∨ errM sm lm sn ln ps qs = 8 ∨ errM sm lm sn ln ps qs = 70 := by
    unfold errM
    split
    · exact errVs_vals _ _
    · simp
  rcases hv with h | h
  · have h0 := h
    unfold errM at h0
    by_cases hok : okI sm lm = true ∧ okI sn ln = true
    · rw [if_pos hok] at h0
      obtain ⟨h1, h2, h3⟩ := errVs_zero h0
      exact ⟨_, 0, fun w Z Y Z3 Z4 A B Am An c d cm cn ha hb um un => vmix_n ha hb um un (NmV.ok h1 s1) (NmV.ok h2 s2) (Nm.ok hok.1 s3) (Nm.ok hok.2 s4) h3 (okV_len h1) k1 k2 k3 k4 (by omega) (NmV.mk' _), fun w Z Y Z3 Z4 A B Am An c d cm cn ha hb um un => r7mix_ok ha hb um un (NmV.ok h1 s1) (NmV.ok h2 s2) (Nm.ok hok.1 s3) (Nm.ok hok.2 s4) h3 (okV_len h1) k1 k2 k3 k4 (by omega) (NmV.mk' _)⟩
    · rw [if_neg hok] at h0
      cases h0
  · exact ⟨[], errM sm lm sn ln ps qs, fun w Z Y Z3 Z4 A B Am An c d cm cn ha hb um un => (vmix_err ha hb um un rfl h).mono (fun e w' ⟨h1, h2⟩ => ⟨none, 0, h1, VecAt.nil _ _, h2⟩), fun w Z Y Z3 Z4 A B Am An c d cm cn ha hb um un => (r7mix_err ha hb um un rfl h).mono (fun e w' ⟨h1, h2⟩ => ⟨none, 0, h1, VecAt.nil _ _, h2⟩)⟩
end Go.Proofs.YtdhgjkihghndiaaGreat
