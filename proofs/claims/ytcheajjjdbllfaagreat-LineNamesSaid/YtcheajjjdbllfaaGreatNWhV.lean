/- Intervals: ends as places. No conditions. -/
import Derived.Deep.RegionLaw
import Derived.Deep.RegionHeld3
import Derived.Test.YtcheajjjdbllfaaGreatNVecC
import Derived.Test.YtcheajjjdbllfaaGreatNVecH
import Derived.Test.YtcheajjjdbllfaaGreatNWhU
import Derived.Test.YtcheajjjdbllfaaGreatNW5G
import Derived.Test.YtcheajjjdbllfaaGreatNBoxL
import Derived.Test.YtcheajjjdbllfaaGreatNW5D
import Derived.Test.YtcheajjjdbllfaaGreatNW5C
import Derived.Test.YtcheajjjdbllfaaGreatNRefQ
set_option linter.unusedVariables false
set_option linter.unusedSimpArgs false
set_option maxRecDepth 100000
set_option maxHeartbeats 40000000
namespace Go.Proofs.YtcheajjjdbllfaaGreat
open Go.Lib (hid)
open Go.RowKit
variable {A A' B C D rA : Option Addr} {M b m rb x y : Int} {W W' w w' : World} {Y Z Z1 Z2 Z3 Z4 : Zone} {a a0 a1 a2 a3 a4 a5 b0 b1 b2 b3 b4 b5 d e f v v' v0 v1 v2 v3 v4 v5 : Value} {c c' g h i j rc : Nat} {k0 k1 l' l0 l1 rl : List Nat} {m0 m1 n0 n1 rs s s' s0 s1 t t0 t1 : Bool} {xs : List Value}
def Fresh (w : World) (v v' : Value) : Prop := v'.ownBlock = v.ownBlock ∨ ∀ k, v'.ownBlock = some k → w.heap.size ≤ k
theorem append_fresh {P : Program} (w : World) (base : Nat) (t ty e : TypeId) (i : TypeInfo) (z : Value) (size bytes : Nat) (ht : P.underlying t = some (.slice e)) (hi : P.info? e = some i) (hz : i.zero = some z)
  (hsize : i.size = size) (hby : i.bytes = bytes) (hzs : z.cells.size = size) (hsz : 0 < size)
  (v : Value) (n : Nat) (xs : List Value) (hown : w.ownsRow base e size v n xs)
  (a : Addr) (m c : Nat) (news : List Value) (hl : news.length = m * size) (hnews : ∀ j u, news[j]? = some u → w.cell? (a.add j) = some u) (h1 : ∀ u ∈ news, u.oneCell' = true)
  (h63 : n + m ≤ maxLen) (hbytes : (n + m) * bytes ≤ 140737488355328) (hbase : base ≤ w.heap.size) :
  ∃ v' w', (Builtin.append_ #[t, t] ty #[v, .slice (some a) m c]).run P w = .ok v' w' ∧ w'.ownsRow base e size v' (n + m) (xs ++ news) ∧ w.grownBy w' v.ownBlock ∧ Fresh w v v' := by
 obtain ⟨v', w', hr, h2, h3, _⟩ := run_append_own (P := P) w base t ty e i z size bytes ht hi hz hsize hby hzs hsz v n xs hown a m c news hl hnews h1 h63 hbytes hbase
 refine ⟨v', w', hr, h2, h3, ?_⟩
 have hcase := hown.2
 rcases hcase with ⟨rfl, rfl⟩ | ⟨g, cap, cur, rfl, hbg, hg, hnc, hcm, hcs, htake⟩
 · right
   have hx : xs = [] := List.eq_nil_of_length_eq_zero (by simpa using hown.1)
   subst hx
   obtain ⟨v2, w2, hr2, h4, _, _⟩ := run_append_own (P := P) w w.heap.size t ty e i z size bytes ht hi hz hsize hby hzs hsz (.slice none 0 0) 0 [] (World.ownsRow_nil _ _ _ _) a m c news hl hnews h1 h63 hbytes (Nat.le_refl _)
   rw [hr] at hr2
   injection hr2 with e1 e2
   subst e1 e2
   exact fun k hk => (h4.lt k hk).1
 · by_cases hroom : n + m ≤ cap
   · left
     have hfit : n * i.size + news.length ≤ cur.size := by rw [hl, hcs, hsize, ← Nat.add_mul]; exact Nat.mul_le_mul_right _ hroom
     have hr2 := run_append_room (P := P) w t ty e i ht hi g n cap cur hg a m c news (by rw [hsize]; exact hl) hnews h1 hroom hfit
     rw [hr] at hr2
     injection hr2 with e1 e2
     rw [e1]
     rfl
   · right
     have holds : ∀ j u, xs[j]? = some u → w.cell? ((⟨g, 0, none⟩ : Addr).add j) = some u := hown.cells (g := g) rfl
     have hr2 := run_append_grow (P := P) w t ty e i z ht hi hz ⟨g, 0, none⟩ n cap xs (by rw [hsize]; exact hown.1) holds a m c news (by rw [hsize]; exact hl) hnews (by omega) (by simp only [maxLen] at h63; omega) (growslice_fits (by omega) (by rw [hby]; exact hbytes))
     rw [hr] at hr2
     injection hr2 with e1 e2
     rw [e1]
     intro k hk
     simp [Value.ownBlock] at hk
     omega
theorem wpList_appF {P : Program} (w : World) {ops : Array Oper} {rest : List Oper} {o : Oper} {a : Act} {Q : Exit → Act → World → Prop} (hgd : o.guard = none) (s x : Operand) (t : TypeId)
  (ho : o.op = .call { callee := .builtin .append, args := #[s, x], argTypes := #[t, t] })
  (base : Nat) (e : TypeId) (i : TypeInfo) (z : Value) (size bytes : Nat) (ht : P.underlying t = some (.slice e)) (hi : P.info? e = some i) (hz : i.zero = some z) (hsize : i.size = size) (hby : i.bytes = bytes) (hzs : z.cells.size = size) (hsz : 0 < size) (hbb : bytes ≤ 1000)
  (v : Value) (n : Nat) (xs : List Value) (hs : a.eval s = v) (hown : w.ownsRow base e size v n xs)
  (g : Nat) (news : List Value) (hx : a.eval x = .slice (some ⟨g, 0, none⟩) 1 1) (hl : news.length = size) (hc : ∀ j u, news[j]? = some u → w.cell? ⟨g, j, none⟩ = some u) (h1 : ∀ u ∈ news, u.oneCell' = true)
  (hb : n + 1 ≤ 1000000000) (hbase : base ≤ w.heap.size)
  (h : ∀ v' w', w'.ownsRow base e size v' (n + 1) (xs ++ news) → w.grownBy w' v.ownBlock → Fresh w v v' → wpList P ops Q rest (a.put o.dst v') w') : wpList P ops Q (o :: rest) a w := by
 refine wpList_plain hgd fun _ hK => ?_
 have hbt : (n + 1) * bytes ≤ 140737488355328 := Nat.le_trans (Nat.mul_le_mul hb hbb) (by omega)
 obtain ⟨v', w', hrun, r1, r2, r3⟩ := append_fresh (P := P) w base t o.type e i z size bytes ht hi hz hsize hby hzs hsz v n xs hown ⟨g, 0, none⟩ 1 1 news (by omega) (fun j u hu => by rw [Addr.add_lit, Nat.zero_add]; exact hc j u hu) h1 (by simp only [maxLen]; omega) hbt hbase
 unfold Oper.wp
 simp [execOp, ho, resolve, invoke, builtin, hs, hx, hrun, Result.andThen]
 exact hK _ _ (h v' w' r1 r2 r3)
theorem step_appF {P : Program} {ops : Array Oper} {o : Oper} {a : Act} {K : Act → World → Prop} {Q : Exit → Act → World → Prop} {E : Prop}
  (hg : o.guard = none) (s x : Operand) (t : TypeId) (hop : o.op = Op.call { callee := Callee.builtin Builtin.append, args := #[s, x], argTypes := #[t, t] })
  (base : Nat) (e : TypeId) (i : TypeInfo) (z : Value) (size bytes : Nat) (ht : P.underlying t = some (.slice e)) (hi : P.info? e = some i) (hz : i.zero = some z) (hsize : i.size = size) (hby : i.bytes = bytes) (hzs : z.cells.size = size) (hsz : 0 < size) (hbb : bytes ≤ 1000)
  (v : Value) (n : Nat) (xs : List Value) (hs : a.eval s = v) (hown : w.ownsRow base e size v n xs)
  (g : Nat) (news : List Value) (hx : a.eval x = .slice (some ⟨g, 0, none⟩) 1 1) (hl : news.length = size) (hc : ∀ j u, news[j]? = some u → w.cell? ⟨g, j, none⟩ = some u) (h1 : ∀ u ∈ news, u.oneCell' = true)
  (hb : n + 1 ≤ 1000000000) (hbase : base ≤ w.heap.size)
  (hK : ∀ v' w', w'.ownsRow base e size v' (n + 1) (xs ++ news) → w.grownBy w' v.ownBlock → Fresh w v v' → K (a.put o.dst v') w') :
  if Region.wanted o (yielded ops a.tmps) = true then Oper.wp P o a w K Q else E := by
 have hw : Region.wanted o (yielded ops a.tmps) = true := by simp [Region.wanted, hg]
 rw [if_pos hw]
 have hbt : (n + 1) * bytes ≤ 140737488355328 := Nat.le_trans (Nat.mul_le_mul hb hbb) (by omega)
 obtain ⟨v', w', hrun, r1, r2, r3⟩ := append_fresh (P := P) w base t o.type e i z size bytes ht hi hz hsize hby hzs hsz v n xs hown ⟨g, 0, none⟩ 1 1 news (by omega) (fun j u hu => by rw [Addr.add_lit, Nat.zero_add]; exact hc j u hu) h1 (by simp only [maxLen]; omega) hbt hbase
 unfold Oper.wp
 simp [execOp, hop, resolve, invoke, builtin, hs, hx, hrun, Result.andThen]
 exact hK v' w' r1 r2 r3
def newX (B : Nat) (v : Value) : Zone := ⟨fun b => B ≤ b ∧ v.ownBlock ≠ some b, True⟩
theorem newX_le (B : Nat) (v : Value) : (newX B v).le (new B) := ⟨fun _ h => h.1, fun h => h⟩
theorem U64s.toX {B K : Nat} {l : List Nat} (h : U64s w (new K) A c l) (hv : ∀ k, v.ownBlock = some k → k < K) (hB : B ≤ K) : U64s w (newX B v) A c l :=
 h.mono ⟨fun b hb => ⟨Nat.le_trans hB hb, fun e => by have h1 := hv b e; have h2 : K ≤ b := hb; omega⟩, fun h => h⟩
theorem U64s.grow {B : Nat} {l : List Nat} (h : U64s w (newX B v) A c l) (hg : w.grownBy w' v.ownBlock) (hf : Fresh w v v') : U64s w' (newX B v') A c l := by
 have h1 := h.keep (w' := w') fun b hb hl => hg.block b hl (fun e => hb.2 e.symm)
 refine ⟨h1.small, h1.cap, h1.max, h1.nul, fun h0 => ?_⟩
 obtain ⟨b, o, e, hb, hfz, hc⟩ := h1.row h0
 obtain ⟨b2, o2, e2, hb2, _, hc2⟩ := h.row h0
 rw [e] at e2
 injection e2 with e2
 injection e2 with e3 e4
 subst e3 e4
 have hlt := lt_of_cell (hc2 0 _ (List.getElem?_eq_getElem h0))
 refine ⟨b, o, e, ⟨hb.1, fun e5 => ?_⟩, hfz, hc⟩
 rcases hf with h3 | h3
 · exact hb.2 (h3.symm.trans e5)
 · have h4 := h3 b e5
   have h5 : b < w.heap.size := hlt
   omega
def CellsF (w : World) (B : Nat) (v : Value) (xs : List Value) (k : Nat) (qs : List (Bool × List Nat)) : Prop :=
 ∀ j (hj : j < qs.length), j < k → ∃ A c, xs[j * 2]? = some (.bool qs[j].1) ∧ xs[j * 2 + 1]? = some (.slice A qs[j].2.length c) ∧ U64s w (newX B v) A c qs[j].2
theorem CellsF.zero (w : World) (B : Nat) (v : Value) (xs : List Value) (qs : List (Bool × List Nat)) : CellsF w B v xs 0 qs := fun j _ h => absurd h (by omega)
theorem CellsF.below {B : Nat} {k : Nat} {qs : List (Bool × List Nat)} (h : CellsF w B v xs k qs) (hb : Below w.heap.size w w') : CellsF w' B v xs k qs := fun j hj hjk => by
 obtain ⟨A, c, c0, c1, hu⟩ := h j hj hjk
 exact ⟨A, c, c0, c1, hu.below hb⟩
theorem CellsF.grow {B : Nat} {k : Nat} {qs : List (Bool × List Nat)} (h : CellsF w B v xs k qs) (hl : xs.length = k * 2) (hg : w.grownBy w' v.ownBlock) (hf : Fresh w v v') (hk : k < qs.length)
  (hu : U64s w (newX B v) A c (qs[k]).2) : CellsF w' B v' (xs ++ [.bool (qs[k]).1, .slice A (qs[k]).2.length c]) (k + 1) qs := fun j hj hjk => by
 rcases Nat.lt_or_ge j k with h1 | h1
 · obtain ⟨A', c', c0, c1, hu'⟩ := h j hj h1
   refine ⟨A', c', ?_, ?_, hu'.grow hg hf⟩
   · rw [List.getElem?_append_left (by omega)]; exact c0
   · rw [List.getElem?_append_left (by omega)]; exact c1
 · obtain rfl : j = k := by omega
   refine ⟨A, c, ?_, ?_, hu.grow hg hf⟩
   · rw [List.getElem?_append_right (by omega), hl, Nat.sub_self]; rfl
   · rw [List.getElem?_append_right (by omega), hl, show j * 2 + 1 - j * 2 = 1 by omega]; rfl
theorem CellsF.fin {B : Nat} {qs : List (Bool × List Nat)} {e : TypeId} (h : CellsF w B v xs qs.length qs) (hown : w.ownsRow B e 2 v qs.length xs) : IsVec w (new B) v qs := by
 obtain ⟨A2, c2, e2⟩ := own_shape hown
 have hcase := hown.2
 rcases hcase with ⟨e1, h0⟩ | ⟨g, cap, cur, e1, hB, hh, hcap, hm, _⟩
 · have hq : qs = [] := List.eq_nil_of_length_eq_zero h0
   subst hq
   exact ⟨none, 0, e1, VecAt.nil _ _⟩
 · subst e1
   refine ⟨some ⟨g, 0, none⟩, cap, rfl, hcap, by simpa [maxLen] using hm, fun h0 => ⟨g, 0, rfl, hB, (hown.lt g rfl).2, fun _ j => by rw [Nat.zero_add]; exact hown.frozenAt j, fun j hj => ?_⟩⟩
   obtain ⟨A, c, c0, c1, hu⟩ := h j hj hj
   exact ⟨A, c, by rw [Nat.zero_add, hown.cellAt (j * 2) (by omega)]; exact c0, by rw [Nat.zero_add, hown.cellAt (j * 2 + 1) (by omega)]; exact c1, hu.mono (newX_le _ _)⟩
def okE (n s : Bool) (l : List Nat) : Bool := bif n then (!s && decide (l.length = 0)) else okI s l
theorem imay_any {n : Bool} {l : List Nat} (hu : U64s w Z A c l) :
  Calls Tryz.prog 107 #[.agg #[.bool n, .bool s, .slice A l.length c]] w fun e w' => e = .returned (.bool (okE n s l)) ∧ Below w.heap.size w w' := by
 have hlen := hu.len
 have hb0 : Below w.heap.size w (w.alloc (.cells #[.bool n, .bool s, .slice A l.length c] 27)) := (Below.refl _ w).alloc (Nat.le_refl _) _
 obtain ⟨q0, q1, q2, _, _, _, _⟩ := Box3.new w (.bool n) (.bool s) (.slice A l.length c) 27
 have hm := wcheck_any (a := .agg #[.bool s, .slice A l.length c]) ⟨_, rfl, A, c, rfl, hu.below hb0⟩
 have Hb0 := hid hb0
 cases n with
 | false =>
   rw [show okE false s l = okI s l from rfl]
   cases hg : okI s l with
   | true =>
     rw [show errC s l = 0 by simp [errC, hg]] at hm
     have Hm := hid hm
     clear hm hu hb0 hg
     go_enter Tryz.func107, Tryz.ntmps107
     go_wp2_with fail
     refine Hm.out.mono ?_
     rintro e w1 ⟨rfl, hb1⟩
     go_wp2
     go_ret
     exact ⟨rfl, from_ Hb0.out hb1⟩
   | false =>
     rw [show errC s l = 8 by simp [errC, hg]] at hm
     have Hm := hid hm
     clear hm hu hb0 hg
     go_enter Tryz.func107, Tryz.ntmps107
     go_wp2_with fail
     refine Hm.out.mono ?_
     rintro e w1 ⟨rfl, hb1⟩
     go_wp2
     go_ret
     exact ⟨rfl, from_ Hb0.out hb1⟩
 | true =>
   clear hm
   cases s with
   | true =>
     clear hu hb0
     go_enter Tryz.func107, Tryz.ntmps107
     go_wp2
     go_ret
     exact ⟨rfl, Hb0.out⟩
   | false =>
     by_cases h0 : l.length = 0
     · have e1 : okE true false l = true := by simp [okE, h0]
       rw [e1]
       rw [h0] at q2 Hb0 ⊢
       clear hu hb0 e1
       go_enter Tryz.func107, Tryz.ntmps107
       go_wp2
       go_ret
       exact ⟨rfl, Hb0.out⟩
     · have e1 : okE true false l = false := by simp [okE, h0]
       rw [e1]
       have hd : ((l.length : Int) == (0 : Int)) = false := beq_eq_false_iff_ne.2 (by omega)
       have hd2 : decide ((l.length : Int) = (0 : Int)) = false := decide_eq_false (by omega)
       clear hu hb0 e1
       go_enter Tryz.func107, Tryz.ntmps107
       go_wp2
       go_ret
       exact ⟨rfl, Hb0.out⟩
structure Box6 (W : World) (g : Nat) (a b c d e f : Value) : Prop where
 c0 : W.cell? ⟨g, 0, none⟩ = some a
 c1 : W.cell? ⟨g, 1, none⟩ = some b
 c2 : W.cell? ⟨g, 2, none⟩ = some c
 c3 : W.cell? ⟨g, 3, none⟩ = some d
 c4 : W.cell? ⟨g, 4, none⟩ = some e
 c5 : W.cell? ⟨g, 5, none⟩ = some f
 f0 : W.frozen? ⟨g, 0, none⟩ = false
 f1 : W.frozen? ⟨g, 1, none⟩ = false
 f2 : W.frozen? ⟨g, 2, none⟩ = false
 f3 : W.frozen? ⟨g, 3, none⟩ = false
 f4 : W.frozen? ⟨g, 4, none⟩ = false
 f5 : W.frozen? ⟨g, 5, none⟩ = false
 lt : g < W.heap.size
theorem Box6.new (w : World) (a b c d e f : Value) (t : TypeId) : Box6 (w.alloc (.cells #[a, b, c, d, e, f] t)) w.heap.size a b c d e f :=
 ⟨cell_newest rfl rfl, cell_newest rfl rfl, cell_newest rfl rfl, cell_newest rfl rfl, cell_newest rfl rfl, cell_newest rfl rfl, by simp, by simp, by simp, by simp, by simp, by simp, by simp⟩
theorem Box6.below {b c : Value} (h : Box6 W g a b c d e f) (hb : Below W.heap.size W W') : Box6 W' g a b c d e f :=
 ⟨keepC hb h.c0, keepC hb h.c1, keepC hb h.c2, keepC hb h.c3, keepC hb h.c4, keepC hb h.c5, keepF hb h.lt h.f0, keepF hb h.lt h.f1, keepF hb h.lt h.f2, keepF hb h.lt h.f3, keepF hb h.lt h.f4, keepF hb h.lt h.f5, Nat.lt_of_lt_of_le h.lt hb.size⟩
theorem Box6.all {b c : Value} (h : Box6 W g a b c d e f) : W.cell? ⟨g, 0, none⟩ = some a ∧ W.cell? ⟨g, 1, none⟩ = some b ∧ W.cell? ⟨g, 2, none⟩ = some c ∧ W.cell? ⟨g, 3, none⟩ = some d ∧ W.cell? ⟨g, 4, none⟩ = some e ∧ W.cell? ⟨g, 5, none⟩ = some f := ⟨h.c0, h.c1, h.c2, h.c3, h.c4, h.c5⟩
theorem Box6.cf {b c : Value} (h : Box6 W g a b c d e f) : (W.cell? ⟨g, 0, none⟩ = some a ∧ W.cell? ⟨g, 1, none⟩ = some b ∧ W.cell? ⟨g, 2, none⟩ = some c ∧ W.cell? ⟨g, 3, none⟩ = some d ∧ W.cell? ⟨g, 4, none⟩ = some e ∧ W.cell? ⟨g, 5, none⟩ = some f) ∧ W.frozen? ⟨g, 0, none⟩ = false ∧ W.frozen? ⟨g, 1, none⟩ = false ∧ W.frozen? ⟨g, 2, none⟩ = false ∧ W.frozen? ⟨g, 3, none⟩ = false ∧ W.frozen? ⟨g, 4, none⟩ = false ∧ W.frozen? ⟨g, 5, none⟩ = false := ⟨⟨h.c0, h.c1, h.c2, h.c3, h.c4, h.c5⟩, h.f0, h.f1, h.f2, h.f3, h.f4, h.f5⟩
theorem Box6.alloc {b c : Value} (h : Box6 W g a b c d e f) (o : Obj) : Box6 (W.alloc o) g a b c d e f := h.below ((Below.refl _ W).alloc (Nat.le_refl _) _)
theorem loadVar_itv {b c : Value} (h : Box6 w g a b c d e f) :
  (loadVar 29 ⟨g, 0, none⟩).run Tryz.prog w = .ok (.agg #[a, b, c, d, e, f]) w := by
 have h0 := h.all
 unfold loadVar
 go_simp
theorem loadVar_bound (h0 : w.cell? ⟨g, 0, none⟩ = some v0) (h1 : w.cell? ⟨g, 1, none⟩ = some v1) (h2 : w.cell? ⟨g, 2, none⟩ = some v2) :
  (loadVar 27 ⟨g, 0, none⟩).run Tryz.prog w = .ok (.agg #[v0, v1, v2]) w := by
 unfold loadVar
 go_simp
theorem loadVar_place (h0 : w.cell? ⟨g, 0, none⟩ = some v0) (h1 : w.cell? ⟨g, 1, none⟩ = some v1) (h2 : w.cell? ⟨g, 2, none⟩ = some v2) :
  (loadVar 117 ⟨g, 0, none⟩).run Tryz.prog w = .ok (.agg #[v0, v1, v2]) w := by
 unfold loadVar
 go_simp
theorem res_itv {fn : Func} {p : Tmp} (h : fn.results = #[.cell p 29]) (tmps : Array Value) (g : Nat) {b c : Value} (hp : tmps.getD p undef = .pointer (some ⟨g, 0, none⟩)) (hB : Box6 w g a b c d e f) :
  (results fn tmps).run Tryz.prog w = .ok (.agg #[a, b, c, d, e, f]) w := by
 have hp' : tmps[p]?.getD undef = .pointer (some ⟨g, 0, none⟩) := by simpa using hp
 simp [results, h, hp', asAddr, loadVar_itv hB]
theorem res_itv2 {fn : Func} {p u : Tmp} (h : fn.results = #[.cell p 29, .tmp u]) (tmps : Array Value) (g : Nat) {b c : Value} (hp : tmps.getD p undef = .pointer (some ⟨g, 0, none⟩)) (hB : Box6 w g a b c d e f) :
  (results fn tmps).run Tryz.prog w = .ok (.tuple #[.agg #[a, b, c, d, e, f], tmps.getD u undef]) w := by
 rw [results_cell_tmp h, hp]
 simp [asAddr, Result.andThen, loadVar_itv hB]
theorem res_bound {fn : Func} {p : Tmp} (h : fn.results = #[.cell p 27]) (tmps : Array Value) (g : Nat) (hp : tmps.getD p undef = .pointer (some ⟨g, 0, none⟩)) (h0 : w.cell? ⟨g, 0, none⟩ = some v0) (h1 : w.cell? ⟨g, 1, none⟩ = some v1) (h2 : w.cell? ⟨g, 2, none⟩ = some v2) :
  (results fn tmps).run Tryz.prog w = .ok (.agg #[v0, v1, v2]) w := by
 have hp' : tmps[p]?.getD undef = .pointer (some ⟨g, 0, none⟩) := by simpa using hp
 simp [results, h, hp', asAddr, loadVar_bound h0 h1 h2]
theorem res_place {fn : Func} {p : Tmp} (h : fn.results = #[.cell p 117]) (tmps : Array Value) (g : Nat) (hp : tmps.getD p undef = .pointer (some ⟨g, 0, none⟩)) (h0 : w.cell? ⟨g, 0, none⟩ = some v0) (h1 : w.cell? ⟨g, 1, none⟩ = some v1) (h2 : w.cell? ⟨g, 2, none⟩ = some v2) :
  (results fn tmps).run Tryz.prog w = .ok (.agg #[v0, v1, v2]) w := by
 have hp' : tmps[p]?.getD undef = .pointer (some ⟨g, 0, none⟩) := by simpa using hp
 simp [results, h, hp', asAddr, loadVar_place h0 h1 h2]
def okA (n0 s0 : Bool) (l0 : List Nat) (n1 s1 : Bool) (l1 : List Nat) : Bool := okE n0 s0 l0 && (okE n1 s1 l1 && (n0 || (n1 || decide (zof s0 l0 ≤ zof s1 l1))))
def errA (n0 s0 : Bool) (l0 : List Nat) (n1 s1 : Bool) (l1 : List Nat) : Int := if okA n0 s0 l0 n1 s1 l1 = true then 0 else 8
theorem sgn_le (h : x ≤ y) : sgn (x - y) ≤ 0 := by unfold sgn; split <;> (try split) <;> omega
theorem sgn_gt (h : ¬ x ≤ y) : ¬ sgn (x - y) ≤ 0 := by unfold sgn; split <;> (try split) <;> omega
theorem zof_len {l : List Nat} (h : okI s l = true) (hs : Small l) : (limbs (zof s l).natAbs).length = l.length := by rw [(zof_enc h hs).2]
theorem icheck_any {d : Nat} (hu : U64s w Z A c l0) (hv : U64s w Y B d l1) (hl : l0.length ≤ 9000) (hl2 : l1.length ≤ 9000) :
  Calls Tryz.prog 79 #[.agg #[.bool n0, .bool s0, .slice A l0.length c, .bool n1, .bool s1, .slice B l1.length d]] w fun e w' => e = .returned (.int .i64 (errA n0 s0 l0 n1 s1 l1)) ∧ Below w.heap.size w w' := by
 have hsu := hu.small
 have hsv := hv.small
 obtain ⟨c0, c1, c2, c3, c4, c5, _, _, _, _, _, _, _⟩ := Box6.new w (.bool n0) (.bool s0) (.slice A l0.length c) (.bool n1) (.bool s1) (.slice B l1.length d) 29
 obtain ⟨HB, Hb0⟩ := hid2 (Box6.new w (.bool n0) (.bool s0) (.slice A l0.length c) (.bool n1) (.bool s1) (.slice B l1.length d) 29) ((Below.refl _ w).alloc (Nat.le_refl _) (.cells #[.bool n0, .bool s0, .slice A l0.length c, .bool n1, .bool s1, .slice B l1.length d] 29))
 obtain ⟨p, hp⟩ : ∃ p, p = okE n0 s0 l0 := ⟨_, rfl⟩
 obtain ⟨q, hq⟩ : ∃ q, q = okE n1 s1 l1 := ⟨_, rfl⟩
 obtain ⟨Hp, Hq, Hu, Hv, H1, H2⟩ := hid6 hp hq hu hv (fun (W : World) (h : Below w.heap.size w W) => imay_any (n := n0) (s := s0) (hu.below h)) (fun (W : World) (h : Below w.heap.size w W) => imay_any (n := n1) (s := s1) (hv.below h))
 rw [← hp] at H1
 rw [← hq] at H2
 clear hu hv hp hq
 cases p with
 | false =>
   have e1 : errA n0 s0 l0 n1 s1 l1 = 8 := by simp [errA, okA, ← Hp.out]
   rw [e1]
   clear e1
   go_enter Tryz.func79, Tryz.ntmps79
   go_wp2_with fail
   refine (H1.out _ Hb0.out).mono ?_
   rintro e w1 ⟨rfl, hb1⟩
   have hb2 := from_ Hb0.out hb1
   have HB2 := hid (HB.out.below hb1)
   clear c0 c1 c2 c3 c4 c5
   obtain ⟨c0, c1, c2, c3, c4, c5, _, _, _, _, _, _, _⟩ := HB2.out
   go_wp2
   go_ret
   exact ⟨rfl, hb2⟩
 | true =>
   cases q with
   | false =>
     have e1 : errA n0 s0 l0 n1 s1 l1 = 8 := by simp [errA, okA, ← Hp.out, ← Hq.out]
     rw [e1]
     clear e1
     go_enter Tryz.func79, Tryz.ntmps79
     go_wp2_with fail
     refine (H1.out _ Hb0.out).mono ?_
     rintro e w1 ⟨rfl, hb1⟩
     have hb2 := from_ Hb0.out hb1
     have HB2 := hid (HB.out.below hb1)
     clear c0 c1 c2 c3 c4 c5
     obtain ⟨c0, c1, c2, c3, c4, c5, _, _, _, _, _, _, _⟩ := HB2.out
     go_wp2_with fail
     refine (H2.out _ hb2).mono ?_
     rintro e w2 ⟨rfl, hb3⟩
     have hb4 := from_ hb2 hb3
     have HB4 := hid (HB2.out.below hb3)
     clear c0 c1 c2 c3 c4 c5
     obtain ⟨c0, c1, c2, c3, c4, c5, _, _, _, _, _, _, _⟩ := HB4.out
     go_wp2
     go_ret
     exact ⟨rfl, hb4⟩
   | true =>
     cases n0 with
     | true =>
       have e1 : errA true s0 l0 n1 s1 l1 = 0 := by simp [errA, okA, ← Hp.out, ← Hq.out]
       rw [e1]
       clear e1
       go_enter Tryz.func79, Tryz.ntmps79
       go_wp2_with fail
       refine (H1.out _ Hb0.out).mono ?_
       rintro e w1 ⟨rfl, hb1⟩
       have hb2 := from_ Hb0.out hb1
       have HB2 := hid (HB.out.below hb1)
       clear c0 c1 c2 c3 c4 c5
       obtain ⟨c0, c1, c2, c3, c4, c5, _, _, _, _, _, _, _⟩ := HB2.out
       go_wp2_with fail
       refine (H2.out _ hb2).mono ?_
       rintro e w2 ⟨rfl, hb3⟩
       have hb4 := from_ hb2 hb3
       have HB4 := hid (HB2.out.below hb3)
       clear c0 c1 c2 c3 c4 c5
       obtain ⟨c0, c1, c2, c3, c4, c5, _, _, _, _, _, _, _⟩ := HB4.out
       go_wp2
       go_ret
       exact ⟨rfl, hb4⟩
     | false =>
       cases n1 with
       | true =>
         have e1 : errA false s0 l0 true s1 l1 = 0 := by simp [errA, okA, ← Hp.out, ← Hq.out]
         rw [e1]
         clear e1
         go_enter Tryz.func79, Tryz.ntmps79
         go_wp2_with fail
         refine (H1.out _ Hb0.out).mono ?_
         rintro e w1 ⟨rfl, hb1⟩
         have hb2 := from_ Hb0.out hb1
         have HB2 := hid (HB.out.below hb1)
         clear c0 c1 c2 c3 c4 c5
         obtain ⟨c0, c1, c2, c3, c4, c5, _, _, _, _, _, _, _⟩ := HB2.out
         go_wp2_with fail
         refine (H2.out _ hb2).mono ?_
         rintro e w2 ⟨rfl, hb3⟩
         have hb4 := from_ hb2 hb3
         have HB4 := hid (HB2.out.below hb3)
         clear c0 c1 c2 c3 c4 c5
         obtain ⟨c0, c1, c2, c3, c4, c5, _, _, _, _, _, _, _⟩ := HB4.out
         go_wp2
         go_ret
         exact ⟨rfl, hb4⟩
       | false =>
         have k0 : okI s0 l0 = true := Hp.out.symm
         have k1 : okI s1 l1 = true := Hq.out.symm
         have z0 := zof_len k0 hsu
         have z1 := zof_len k1 hsv
         have n0 := Nm.ok k0 hsu
         have n1 := Nm.ok k1 hsv
         have hz : zof s0 l0 ≤ zof s1 l1 ∨ ¬ zof s0 l0 ≤ zof s1 l1 := Decidable.em _
         obtain ⟨x, hx⟩ : ∃ x, x = zof s0 l0 := ⟨_, rfl⟩
         obtain ⟨y, hy⟩ : ∃ y, y = zof s1 l1 := ⟨_, rfl⟩
         rw [← hx] at z0 n0 hz
         rw [← hy] at z1 n1 hz
         obtain ⟨g, hg⟩ : ∃ g, g = sgn (x - y) := ⟨_, rfl⟩
         have H3 := hid (fun (W : World) (h : Below w.heap.size w W) => cmp_n (w := W) n0 n1 hg.symm (by omega) (by omega) (Hu.out.below h) (Hv.out.below h))
         clear z0 z1 n0 n1
         rcases hz with hz | hz
         · have hgz : g ≤ 0 := by rw [hg]; exact sgn_le hz
           have e1 : errA false s0 l0 false s1 l1 = 0 := by simp [errA, okA, ← Hp.out, ← Hq.out, ← hx, ← hy, hz]
           rw [e1]
           clear e1
           have hd : decide (g ≤ 0) = true := by simpa using hgz
           have hd2 : decide (0 < g) = false := by simp; omega
           obtain ⟨HK, HK2, HK3⟩ := hid3 hx hy hg
           clear hx hy hg hz hgz k0 k1
           go_enter Tryz.func79, Tryz.ntmps79
           go_wp2_with fail
           refine (H1.out _ Hb0.out).mono ?_
           rintro e w1 ⟨rfl, hb1⟩
           have hb2 := from_ Hb0.out hb1
           have HB2 := hid (HB.out.below hb1)
           clear c0 c1 c2 c3 c4 c5
           obtain ⟨c0, c1, c2, c3, c4, c5, _, _, _, _, _, _, _⟩ := HB2.out
           go_wp2_with fail
           refine (H2.out _ hb2).mono ?_
           rintro e w2 ⟨rfl, hb3⟩
           have hb4 := from_ hb2 hb3
           have HB4 := hid (HB2.out.below hb3)
           clear c0 c1 c2 c3 c4 c5
           obtain ⟨c0, c1, c2, c3, c4, c5, _, _, _, _, _, _, _⟩ := HB4.out
           go_wp2_with fail
           refine (H3.out _ hb4).mono ?_
           rintro e w3 ⟨rfl, hb5⟩
           have hb6 := from_ hb4 hb5
           go_wp2
           go_ret
           exact ⟨rfl, hb6⟩
         · have hgz : ¬ g ≤ 0 := by rw [hg]; exact sgn_gt hz
           have e1 : errA false s0 l0 false s1 l1 = 8 := by simp [errA, okA, ← Hp.out, ← Hq.out, ← hx, ← hy, hz]
           rw [e1]
           clear e1
           have hd : decide (g ≤ 0) = false := by simpa using hgz
           have hd2 : decide (0 < g) = true := by simp; omega
           obtain ⟨HK, HK2, HK3⟩ := hid3 hx hy hg
           clear hx hy hg hz hgz k0 k1
           go_enter Tryz.func79, Tryz.ntmps79
           go_wp2_with fail
           refine (H1.out _ Hb0.out).mono ?_
           rintro e w1 ⟨rfl, hb1⟩
           have hb2 := from_ Hb0.out hb1
           have HB2 := hid (HB.out.below hb1)
           clear c0 c1 c2 c3 c4 c5
           obtain ⟨c0, c1, c2, c3, c4, c5, _, _, _, _, _, _, _⟩ := HB2.out
           go_wp2_with fail
           refine (H2.out _ hb2).mono ?_
           rintro e w2 ⟨rfl, hb3⟩
           have hb4 := from_ hb2 hb3
           have HB4 := hid (HB2.out.below hb3)
           clear c0 c1 c2 c3 c4 c5
           have c0 := HB4.out.all
           go_wp2_with fail
           refine (H3.out _ hb4).mono ?_
           rintro e w3 ⟨rfl, hb5⟩
           have hb6 := from_ hb4 hb5
           go_wp2
           go_ret
           exact ⟨rfl, hb6⟩
def Plc (k : Int) (n s : Bool) (l : List Nat) (A : Option Addr) (c : Nat) (b : Int) (s' : Bool) (l' : List Nat) (A' : Option Addr) (c' : Nat) : Prop :=
 (n = true ∧ b = k ∧ s' = false ∧ l' = [] ∧ A' = none ∧ c' = 0) ∨ (n = false ∧ b = 0 ∧ s' = s ∧ l' = l ∧ A' = A ∧ c' = c)
theorem Plc.ex (k : Int) (n s : Bool) (l : List Nat) (A : Option Addr) (c : Nat) : ∃ b s' l' A' c', Plc k n s l A c b s' l' A' c' := by
 cases n
 · exact ⟨_, _, _, _, _, Or.inr ⟨rfl, rfl, rfl, rfl, rfl, rfl⟩⟩
 · exact ⟨_, _, _, _, _, Or.inl ⟨rfl, rfl, rfl, rfl, rfl, rfl⟩⟩
theorem boxP (w : World) (v0 v1 v2 v3 v4 v5 p0 p1 p2 : Value) (t u : TypeId) :
  Box6 ((w.alloc (.cells #[v0, v1, v2, v3, v4, v5] t)).alloc (.cells #[p0, p1, p2] u)) w.heap.size v0 v1 v2 v3 v4 v5 ∧
  Box3 ((w.alloc (.cells #[v0, v1, v2, v3, v4, v5] t)).alloc (.cells #[p0, p1, p2] u)) (w.heap.size + 1) p0 p1 p2 ∧
  Below w.heap.size w ((w.alloc (.cells #[v0, v1, v2, v3, v4, v5] t)).alloc (.cells #[p0, p1, p2] u)) := by
 have h1 := (Box6.new w v0 v1 v2 v3 v4 v5 t).alloc (.cells #[p0, p1, p2] u)
 have h2 := Box3.new (w.alloc (.cells #[v0, v1, v2, v3, v4, v5] t)) p0 p1 p2 u
 rw [show (w.alloc (.cells #[v0, v1, v2, v3, v4, v5] t)).heap.size = w.heap.size + 1 by simp] at h2
 exact ⟨h1, h2, ((Below.refl _ w).alloc (Nat.le_refl _) _).alloc (by simp) _⟩
theorem ilow_p {n : Bool} {l : List Nat} (h : Plc (-1) n s l A c b s' l' A' c') :
  Calls Tryz.prog 58 #[.agg #[.bool n, .bool s, .slice A l.length c, v3, v4, v5]] w fun e w' => e = .returned (.agg #[.int .i64 b, .bool s', .slice A' l'.length c']) ∧ Below w.heap.size w w' := by
 rcases h with ⟨rfl, rfl, rfl, rfl, rfl, rfl⟩ | ⟨rfl, rfl, rfl, rfl, rfl, rfl⟩
 · obtain ⟨B1, _, _⟩ := boxP w (.bool true) (.bool s) (.slice A l.length c) v3 v4 v5 (.int .i64 0) (.bool false) (.slice none 0 0) 29 117
   have HP := hid (boxP w (.bool true) (.bool s) (.slice A l.length c) v3 v4 v5 (.int .i64 (-1)) (.bool false) (.slice none 0 0) 29 117)
   obtain ⟨c0, c1, c2, _⟩ := B1
   go_enter Tryz.func58, Tryz.ntmps58
   go_wp2
   obtain ⟨_, B2, hb⟩ := HP.out
   refine bodyPost_ret (res_place rfl _ (w.heap.size + 1) rfl B2.c0 B2.c1 B2.c2) rfl ?_
   exact ⟨rfl, hb⟩
 · obtain ⟨B1, _, _⟩ := boxP w (.bool false) (.bool s') (.slice A' l'.length c') v3 v4 v5 (.int .i64 0) (.bool false) (.slice none 0 0) 29 117
   have HP := hid (boxP w (.bool false) (.bool s') (.slice A' l'.length c') v3 v4 v5 (.int .i64 0) (.bool s') (.slice A' l'.length c') 29 117)
   obtain ⟨c0, c1, c2, _⟩ := B1
   go_enter Tryz.func58, Tryz.ntmps58
   go_wp2
   obtain ⟨_, B2, hb⟩ := HP.out
   refine bodyPost_ret (res_place rfl _ (w.heap.size + 1) rfl B2.c0 B2.c1 B2.c2) rfl ?_
   exact ⟨rfl, hb⟩
theorem ihigh_p {n : Bool} {l : List Nat} (h : Plc 1 n s l A c b s' l' A' c') :
  Calls Tryz.prog 59 #[.agg #[v3, v4, v5, .bool n, .bool s, .slice A l.length c]] w fun e w' => e = .returned (.agg #[.int .i64 b, .bool s', .slice A' l'.length c']) ∧ Below w.heap.size w w' := by
 rcases h with ⟨rfl, rfl, rfl, rfl, rfl, rfl⟩ | ⟨rfl, rfl, rfl, rfl, rfl, rfl⟩
 · obtain ⟨B1, _, _⟩ := boxP w v3 v4 v5 (.bool true) (.bool s) (.slice A l.length c) (.int .i64 0) (.bool false) (.slice none 0 0) 29 117
   have HP := hid (boxP w v3 v4 v5 (.bool true) (.bool s) (.slice A l.length c) (.int .i64 1) (.bool false) (.slice none 0 0) 29 117)
   obtain ⟨c0, c1, c2, c3, c4, c5, _⟩ := B1
   go_enter Tryz.func59, Tryz.ntmps59
   go_wp2
   obtain ⟨_, B2, hb⟩ := HP.out
   refine bodyPost_ret (res_place rfl _ (w.heap.size + 1) rfl B2.c0 B2.c1 B2.c2) rfl ?_
   exact ⟨rfl, hb⟩
 · obtain ⟨B1, _, _⟩ := boxP w v3 v4 v5 (.bool false) (.bool s') (.slice A' l'.length c') (.int .i64 0) (.bool false) (.slice none 0 0) 29 117
   have HP := hid (boxP w v3 v4 v5 (.bool false) (.bool s') (.slice A' l'.length c') (.int .i64 0) (.bool s') (.slice A' l'.length c') 29 117)
   obtain ⟨c0, c1, c2, c3, c4, c5, _⟩ := B1
   go_enter Tryz.func59, Tryz.ntmps59
   go_wp2
   obtain ⟨_, B2, hb⟩ := HP.out
   refine bodyPost_ret (res_place rfl _ (w.heap.size + 1) rfl B2.c0 B2.c1 B2.c2) rfl ?_
   exact ⟨rfl, hb⟩
theorem boxQ (w : World) (a0 a1 a2 b0 b1 b2 : Value) (t u : TypeId) :
  Box3 ((w.alloc (.cells #[a0, a1, a2] t)).alloc (.cells #[b0, b1, b2] u)) w.heap.size a0 a1 a2 ∧
  Box3 ((w.alloc (.cells #[a0, a1, a2] t)).alloc (.cells #[b0, b1, b2] u)) (w.heap.size + 1) b0 b1 b2 ∧
  Below w.heap.size w ((w.alloc (.cells #[a0, a1, a2] t)).alloc (.cells #[b0, b1, b2] u)) := by
 have h1 := (Box3.new w a0 a1 a2 t).alloc (.cells #[b0, b1, b2] u)
 have h2 := Box3.new (w.alloc (.cells #[a0, a1, a2] t)) b0 b1 b2 u
 rw [show (w.alloc (.cells #[a0, a1, a2] t)).heap.size = w.heap.size + 1 by simp] at h2
 exact ⟨h1, h2, ((Below.refl _ w).alloc (Nat.le_refl _) _).alloc (by simp) _⟩
def bigZ : Int := 18446744073709551616 ^ 64
def Pl (x : Int) (b : Int) (s : Bool) (l : List Nat) : Prop :=
 (b = 0 ∧ Nm x s l ∧ -bigZ < x ∧ x < bigZ) ∨ (b = 1 ∧ s = false ∧ l = [] ∧ x = bigZ) ∨ (b = -1 ∧ s = false ∧ l = [] ∧ x = -bigZ)
theorem bigZ_pos : 0 < bigZ := by unfold bigZ; exact Int.pow_pos (by decide)
def cmpP (b d x y : Int) : Int := bif b == d then sgn (x - y) else b - d
theorem cmpP_le {d : Int} {l k : List Nat} (h : Pl x b s l) (h2 : Pl y d t k) : (cmpP b d x y ≤ 0 ↔ x ≤ y) ∧ (0 ≤ cmpP b d x y ↔ y ≤ x) := by
 have h0 := bigZ_pos
 have hs : ∀ z : Int, (sgn z ≤ 0 ↔ z ≤ 0) ∧ (0 ≤ sgn z ↔ 0 ≤ z) := fun z => by unfold sgn; split <;> (try split) <;> omega
 have hs := hs (x - y)
 unfold cmpP
 rcases h with ⟨rfl, _, h3, h4⟩ | ⟨rfl, _, _, h3⟩ | ⟨rfl, _, _, h3⟩ <;> rcases h2 with ⟨rfl, _, h5, h6⟩ | ⟨rfl, _, _, h5⟩ | ⟨rfl, _, _, h5⟩ <;> simp <;> omega
theorem icompare_p {d g : Int} {l k : List Nat} {e : Nat} (h1 : Pl x b s l) (h2 : Pl y d t k) (hu : U64s w Z A c l) (hv : U64s w Y B e k) (hl : l.length ≤ 9000) (hl2 : k.length ≤ 9000) (hg : cmpP b d x y = g) :
  Calls Tryz.prog 57 #[.agg #[.int .i64 b, .bool s, .slice A l.length c], .agg #[.int .i64 d, .bool t, .slice B k.length e]] w fun e w' => e = .returned (.int .i64 g) ∧ Below w.heap.size w w' := by
 have hb : b = -1 ∨ b = 0 ∨ b = 1 := by rcases h1 with ⟨rfl, _⟩ | ⟨rfl, _⟩ | ⟨rfl, _⟩ <;> simp
 have hd : d = -1 ∨ d = 0 ∨ d = 1 := by rcases h2 with ⟨rfl, _⟩ | ⟨rfl, _⟩ | ⟨rfl, _⟩ <;> simp
 obtain ⟨B1, B2, hb0⟩ := boxQ w (.int .i64 b) (.bool s) (.slice A l.length c) (.int .i64 d) (.bool t) (.slice B k.length e) 117 117
 have Hb0 := hid hb0
 by_cases hbd : b = d
 · subst hbd
   have hN : ∃ x' y', Nm x' s l ∧ Nm y' t k ∧ sgn (x' - y') = g := by
    have e1 : cmpP b b x y = sgn (x - y) := by simp [cmpP]
    rw [e1] at hg
    have n0 : Nm 0 false [] := ⟨rfl, rfl⟩
    rcases h1 with ⟨rfl, n1, _⟩ | ⟨rfl, rfl, rfl, hx⟩ | ⟨rfl, rfl, rfl, hx⟩
    · rcases h2 with ⟨_, n2, _⟩ | ⟨h, _⟩ | ⟨h, _⟩
      · exact ⟨x, y, n1, n2, hg⟩
      · omega
      · omega
    · rcases h2 with ⟨h, _⟩ | ⟨_, rfl, rfl, hy⟩ | ⟨h, _⟩
      · omega
      · exact ⟨0, 0, n0, n0, by rw [← hg, hx, hy]; simp⟩
      · omega
    · rcases h2 with ⟨h, _⟩ | ⟨h, _⟩ | ⟨_, rfl, rfl, hy⟩
      · omega
      · omega
      · exact ⟨0, 0, n0, n0, by rw [← hg, hx, hy]; simp⟩
   obtain ⟨x', y', n1, n2, hg'⟩ := hN
   have hc := cmp_n (w := ((w.alloc (.cells #[.int .i64 b, .bool s, .slice A l.length c] 117)).alloc (.cells #[.int .i64 b, .bool t, .slice B k.length e] 117))) n1 n2 hg' (by omega) (by omega) (hu.below hb0) (hv.below hb0)
   have Hc := hid hc
   obtain ⟨a0, a1, a2, _⟩ := B1
   obtain ⟨b0, b1, b2, _⟩ := B2
   clear hc hu hv hl hl2 hg hg' n1 n2 h1 h2 hb hd hb0
   go_enter Tryz.func57, Tryz.ntmps57
   go_wp2_with fail
   refine Hc.out.mono ?_
   rintro e w1 ⟨rfl, hb1⟩
   go_wp2
   go_ret
   exact ⟨rfl, from_ Hb0.out hb1⟩
 · have e1 : g = b - d := by rw [← hg]; unfold cmpP; rw [beq_false_of_ne hbd]; rfl
   subst e1
   obtain ⟨a0, a1, a2, _⟩ := B1
   obtain ⟨b0, b1, b2, _⟩ := B2
   clear hu hv hl hl2 hg h1 h2 hb0
   rcases hb with rfl | rfl | rfl <;> rcases hd with rfl | rfl | rfl <;> first
    | exact absurd rfl hbd
    | (clear hbd
       go_enter Tryz.func57, Tryz.ntmps57
       go_wp2
       go_ret
       exact ⟨rfl, Hb0.out⟩)
theorem clone_w {l : List Nat} (ha : U64s w Z A c l) (hb : l.length ≤ 1000000000000) :
  Calls Tryz.prog 21 #[.slice A l.length c] w fun e w' => ∃ A' c', e = .returned (.slice A' l.length c') ∧ U64s w' (new w.heap.size) A' c' l ∧ Below w.heap.size w w' := by
 refine (clone_any rfl ha hb).mono ?_
 rintro e w' ⟨v, rfl, hown, hb⟩
 obtain ⟨A', c', rfl⟩ := own_shape hown
 exact ⟨A', c', rfl, isU_after ha.small rfl hown (Nat.le_refl _), hb⟩
theorem boxR (w : World) (a0 a1 b0 b1 b2 : Value) (t u : TypeId) :
  Box ((w.alloc (.cells #[a0, a1] t)).alloc (.cells #[b0, b1, b2] u)) w.heap.size a0 a1 ∧
  Box3 ((w.alloc (.cells #[a0, a1] t)).alloc (.cells #[b0, b1, b2] u)) (w.heap.size + 1) b0 b1 b2 ∧
  Below w.heap.size w ((w.alloc (.cells #[a0, a1] t)).alloc (.cells #[b0, b1, b2] u)) := by
 have h1 := (Box.new w a0 a1 t).alloc (.cells #[b0, b1, b2] u)
 have h2 := Box3.new (w.alloc (.cells #[a0, a1] t)) b0 b1 b2 u
 rw [show (w.alloc (.cells #[a0, a1] t)).heap.size = w.heap.size + 1 by simp] at h2
 exact ⟨h1, h2, ((Below.refl _ w).alloc (Nat.le_refl _) _).alloc (by simp) _⟩
theorem st3 {b k m : Nat} {x y z : Value} (h : w.cell? ⟨g, i, none⟩ = some v) (hn : b ≠ g) : (((w.setCell ⟨b, j, none⟩ x).setCell ⟨b, k, none⟩ y).setCell ⟨b, m, none⟩ z).cell? ⟨g, i, none⟩ = some v := by
 rw [World.cell?_setCell_other _ _ _ _ (fun e => hn (by injection e)), World.cell?_setCell_other _ _ _ _ (fun e => hn (by injection e)), World.cell?_setCell_other _ _ _ _ (fun e => hn (by injection e))]
 exact h
theorem inone_p :
  Calls Tryz.prog 108 #[] w fun e w' => e = .returned (.agg #[.bool true, .bool false, .slice none 0 0]) ∧ Below w.heap.size w w' := by
 obtain ⟨hb0, hB⟩ := hid2 ((Below.refl _ w).alloc (Nat.le_refl _) (.cells #[.bool true, .bool false, .slice none 0 0] 27)) (Box3.new w (.bool true) (.bool false) (.slice none 0 0) 27)
 go_enter Tryz.func108, Tryz.ntmps108
 go_wp2
 refine bodyPost_ret (res_bound rfl _ w.heap.size rfl hB.out.c0 hB.out.c1 hB.out.c2) rfl ?_
 exact ⟨rfl, hb0.out⟩
theorem iat_p {l : List Nat} (u1 : U64s w Z A c l) (hl : l.length ≤ 100000000000) :
  Calls Tryz.prog 10 #[.agg #[.bool s, .slice A l.length c]] w fun e w' => ∃ Av cv, e = .returned (.agg #[.bool false, .bool s, .slice Av l.length cv]) ∧ U64s w' (new w.heap.size) Av cv l ∧ Below w.heap.size w w' := by
 obtain ⟨bA, bR, hB0⟩ := boxR w (.bool s) (.slice A l.length c) (.bool false) (.bool false) (.slice none 0 0) 25 27
 obtain ⟨a0, a1, _, _, _⟩ := bA
 have hd : Below w.heap.size w ((w.alloc (.cells #[.bool s, .slice A l.length c] 25)).alloc (.cells #[.bool false, .bool false, .slice none 0 0] 27)).drew := hB0.drew
 have bRd := bR.below (W' := ((w.alloc (.cells #[.bool s, .slice A l.length c] 25)).alloc (.cells #[.bool false, .bool false, .slice none 0 0] 27)).drew) (bdr_)
 have s0 := (show ((w.alloc (.cells #[.bool s, .slice A l.length c] 25)).alloc (.cells #[.bool false, .bool false, .slice none 0 0] 27)).drew.cell? ⟨w.heap.size, 0, none⟩ = _ from a0)
 have s1 := (show ((w.alloc (.cells #[.bool s, .slice A l.length c] 25)).alloc (.cells #[.bool false, .bool false, .slice none 0 0] 27)).drew.cell? ⟨w.heap.size, 1, none⟩ = _ from a1)
 obtain ⟨C0, HB⟩ := hid2 (clone_w (u1.below hd) (by omega)) hd
 clear u1 hB0 hd bR a0 a1
 go_enter Tryz.func10, Tryz.ntmps10
 go_wp2
 go_region_held3 (fun w' => w'.cell? ⟨w.heap.size, 0, none⟩ = some (.bool s) ∧ w'.cell? ⟨w.heap.size, 1, none⟩ = some (.slice A l.length c))
  (first
   | (go_keep; done)
   | exact ⟨t0, t1⟩
   | exact ⟨st3 t0 (by omega), st3 t1 (by omega)⟩)
  (first
   | (go_at_call 21; with_reducible refine C0.out.mono ?_; rintro e w1 ⟨A1, c1, rfl, u1, hc1⟩; have t0 := keepC hc1 s0; have t1 := keepC hc1 s1; obtain ⟨q0, q1, q2, f0, f1, f2, _⟩ := bRd.below hc1))
 all_goals
  have hBz := from_ HB.out hc1
  have hP := (bRd.below hc1).put hBz (by omega) (.bool false) (.bool s) (.slice A1 l.length c1)
  have hu2 := hP.keep (fun (h : _ ≤ w.heap.size + 1) => by have := bRd.lt; omega) u1
  obtain ⟨Hu, HP⟩ := hid2 hu2 hP
  clear hu2 hP
  go_wp2
  refine bodyPost_ret (res_bound rfl _ (w.heap.size + 1) rfl HP.out.c0 HP.out.c1 HP.out.c2) rfl ?_
  exact ⟨_, _, rfl, Hu.out.mono (new_le HB.out.size), HP.out.bel⟩
theorem ibound_p {n : Bool} {l : List Nat} (h : Pl x b s l) (hn : (b != 0) = n) (u1 : U64s w Z A c l) (hl : l.length ≤ 100000000000) :
  Calls Tryz.prog 82 #[.agg #[.int .i64 b, .bool s, .slice A l.length c]] w fun e w' => ∃ Av cv, e = .returned (.agg #[.bool n, .bool s, .slice Av l.length cv]) ∧ U64s w' (new w.heap.size) Av cv l ∧ Below w.heap.size w w' := by
 obtain ⟨bA, bR, hB0⟩ := boxQ w (.int .i64 b) (.bool s) (.slice A l.length c) (.bool false) (.bool false) (.slice none 0 0) 117 27
 obtain ⟨a0, a1, a2, _, _, _, _⟩ := bA
 obtain ⟨HB, HR⟩ := hid2 hB0 bR
 by_cases hb : b = 0
 · subst hb
   obtain rfl : n = false := by rw [← hn]; rfl
   have C0 := hid (iat_p (s := s) (u1.below hB0) hl)
   clear u1 hB0 h hn bR
   go_enter Tryz.func82, Tryz.ntmps82
   go_wp2_with fail
   refine C0.out.mono ?_
   rintro e w1 ⟨Av, cv, rfl, hu, hc1⟩
   have hP := (HR.out.below hc1).put (from_ HB.out hc1) (by omega) (.bool false) (.bool s) (.slice Av l.length cv)
   have hu2 := hP.keep (fun (h : _ ≤ w.heap.size + 1) => by have := HR.out.lt; omega) hu
   obtain ⟨Hu, HP⟩ := hid2 (hu2.mono (new_le HB.out.size)) hP
   obtain ⟨q0, q1, q2, f0, f1, f2, _⟩ := HR.out.below hc1
   clear hu hu2 hP
   go_wp2
   refine bodyPost_ret (res_bound rfl _ (w.heap.size + 1) rfl HP.out.c0 HP.out.c1 HP.out.c2) rfl ?_
   exact ⟨_, _, rfl, Hu.out, HP.out.bel⟩
 · obtain rfl : n = true := by rw [← hn]; simp [hb]
   obtain ⟨rfl, rfl⟩ : s = false ∧ l = [] := by
    rcases h with ⟨h, _⟩ | ⟨_, h1, h2, _⟩ | ⟨_, h1, h2, _⟩
    · exact absurd h hb
    · exact ⟨h1, h2⟩
    · exact ⟨h1, h2⟩
   have hd : (b == 0) = false := beq_false_of_ne hb
   have hd2 : decide (b = 0) = false := decide_eq_false hb
   clear u1 hB0 h hn bR
   go_enter Tryz.func82, Tryz.ntmps82
   go_wp2_with fail
   refine (inone_p).mono ?_
   rintro e w1 ⟨rfl, hc1⟩
   have hP := (HR.out.below hc1).put (from_ HB.out hc1) (by omega) (.bool true) (.bool false) (.slice none 0 0)
   have HP := hid hP
   obtain ⟨q0, q1, q2, f0, f1, f2, _⟩ := HR.out.below hc1
   clear hP
   go_wp2
   refine bodyPost_ret (res_bound rfl _ (w.heap.size + 1) rfl HP.out.c0 HP.out.c1 HP.out.c2) rfl ?_
   obtain ⟨Av, cv, e', h'⟩ := IsU.nil (((w1.setCell ⟨w.heap.size + 1, 0, none⟩ (.bool true)).setCell ⟨w.heap.size + 1, 1, none⟩ (.bool false)).setCell ⟨w.heap.size + 1, 2, none⟩ (.slice none 0 0)) (new w.heap.size)
   injection e' with e1 e2 e3
   subst e1 e3
   exact ⟨_, _, rfl, h', HP.out.bel⟩
def Pick (p : Bool) (b : Int) (s : Bool) (l : List Nat) (A : Option Addr) (c : Nat) (d : Int) (t : Bool) (k : List Nat) (B : Option Addr) (e : Nat) (rb : Int) (rs : Bool) (rl : List Nat) (rA : Option Addr) (rc : Nat) : Prop :=
 (p = true ∧ rb = b ∧ rs = s ∧ rl = l ∧ rA = A ∧ rc = c) ∨ (p = false ∧ rb = d ∧ rs = t ∧ rl = k ∧ rA = B ∧ rc = e)
theorem Pick.ex (p : Bool) (b : Int) (s : Bool) (l : List Nat) (A : Option Addr) (c : Nat) (d : Int) (t : Bool) (k : List Nat) (B : Option Addr) (e : Nat) : ∃ rb rs rl rA rc, Pick p b s l A c d t k B e rb rs rl rA rc := by
 cases p
 · exact ⟨_, _, _, _, _, Or.inr ⟨rfl, rfl, rfl, rfl, rfl, rfl⟩⟩
 · exact ⟨_, _, _, _, _, Or.inl ⟨rfl, rfl, rfl, rfl, rfl, rfl⟩⟩
theorem boxS (w : World) (a0 a1 a2 b0 b1 b2 r0 r1 r2 : Value) (t : TypeId) :
  Box3 (((w.alloc (.cells #[a0, a1, a2] t)).alloc (.cells #[b0, b1, b2] t)).alloc (.cells #[r0, r1, r2] t)) w.heap.size a0 a1 a2 ∧
  Box3 (((w.alloc (.cells #[a0, a1, a2] t)).alloc (.cells #[b0, b1, b2] t)).alloc (.cells #[r0, r1, r2] t)) (w.heap.size + 1) b0 b1 b2 ∧
  Box3 (((w.alloc (.cells #[a0, a1, a2] t)).alloc (.cells #[b0, b1, b2] t)).alloc (.cells #[r0, r1, r2] t)) (w.heap.size + 2) r0 r1 r2 ∧
  Below w.heap.size w (((w.alloc (.cells #[a0, a1, a2] t)).alloc (.cells #[b0, b1, b2] t)).alloc (.cells #[r0, r1, r2] t)) := by
 obtain ⟨h1, h2, hb⟩ := boxQ w a0 a1 a2 b0 b1 b2 t t
 have h3 := Box3.new ((w.alloc (.cells #[a0, a1, a2] t)).alloc (.cells #[b0, b1, b2] t)) r0 r1 r2 t
 rw [show ((w.alloc (.cells #[a0, a1, a2] t)).alloc (.cells #[b0, b1, b2] t)).heap.size = w.heap.size + 2 by simp] at h3
 exact ⟨h1.alloc _, h2.alloc _, h3, hb.alloc (by simp; omega) _⟩
theorem ileast_p {d : Int} {l k : List Nat} {e : Nat} (h1 : Pl x b s l) (h2 : Pl y d t k) (hu : U64s w Z A c l) (hv : U64s w Y B e k) (hl : l.length ≤ 9000) (hl2 : k.length ≤ 9000) (hp : Pick (decide (x ≤ y)) b s l A c d t k B e rb rs rl rA rc) :
  Calls Tryz.prog 81 #[.agg #[.int .i64 b, .bool s, .slice A l.length c], .agg #[.int .i64 d, .bool t, .slice B k.length e]] w fun e w' => e = .returned (.agg #[.int .i64 rb, .bool rs, .slice rA rl.length rc]) ∧ Below w.heap.size w w' := by
 obtain ⟨bA, bB, bR, hB0⟩ := boxS w (.int .i64 b) (.bool s) (.slice A l.length c) (.int .i64 d) (.bool t) (.slice B k.length e) (.int .i64 0) (.bool false) (.slice none 0 0) 117
 obtain ⟨HA, HBx, HR, HB⟩ := hid4 bA bB bR hB0
 obtain ⟨a0, a1, a2, _, _, _, _⟩ := bA
 obtain ⟨b0, b1, b2, _, _, _, _⟩ := bB
 obtain ⟨g, hg⟩ : ∃ g, cmpP b d x y = g := ⟨_, rfl⟩
 have hle := cmpP_le h1 h2
 rw [hg] at hle
 have C0 := hid (icompare_p h1 h2 (hu.below hB0) (hv.below hB0) hl hl2 hg)
 clear hu hv hB0 h1 h2 bR hg
 rcases hp with ⟨hc, rfl, rfl, rfl, rfl, rfl⟩ | ⟨hc, rfl, rfl, rfl, rfl, rfl⟩
 all_goals
  have hd : decide (g ≤ 0) = _ := (decide_eq_decide.2 hle.1).trans hc
  clear hle hc
  go_enter Tryz.func81, Tryz.ntmps81
  go_wp2_with fail
  refine C0.out.mono ?_
  rintro e w1 ⟨rfl, hc1⟩
 · have hP := (HR.out.below hc1).put (from_ HB.out hc1) (by omega) (.int .i64 rb) (.bool rs) (.slice rA rl.length rc)
   have HP := hid hP
   obtain ⟨q0, q1, q2, f0, f1, f2, _⟩ := HR.out.below hc1
   obtain ⟨p0, p1, p2, _⟩ := HA.out.below hc1
   clear hP
   go_wp2
   refine bodyPost_ret (res_place rfl _ (w.heap.size + 2) rfl HP.out.c0 HP.out.c1 HP.out.c2) rfl ?_
   exact ⟨rfl, HP.out.bel⟩
 · have hP := (HR.out.below hc1).put (from_ HB.out hc1) (by omega) (.int .i64 rb) (.bool rs) (.slice rA rl.length rc)
   have HP := hid hP
   obtain ⟨q0, q1, q2, f0, f1, f2, _⟩ := HR.out.below hc1
   obtain ⟨p0, p1, p2, _⟩ := HBx.out.below hc1
   clear hP
   go_wp2
   refine bodyPost_ret (res_place rfl _ (w.heap.size + 2) rfl HP.out.c0 HP.out.c1 HP.out.c2) rfl ?_
   exact ⟨rfl, HP.out.bel⟩
theorem igreatest_p {d : Int} {l k : List Nat} {e : Nat} (h1 : Pl x b s l) (h2 : Pl y d t k) (hu : U64s w Z A c l) (hv : U64s w Y B e k) (hl : l.length ≤ 9000) (hl2 : k.length ≤ 9000) (hp : Pick (decide (y ≤ x)) b s l A c d t k B e rb rs rl rA rc) :
  Calls Tryz.prog 80 #[.agg #[.int .i64 b, .bool s, .slice A l.length c], .agg #[.int .i64 d, .bool t, .slice B k.length e]] w fun e w' => e = .returned (.agg #[.int .i64 rb, .bool rs, .slice rA rl.length rc]) ∧ Below w.heap.size w w' := by
 obtain ⟨bA, bB, bR, hB0⟩ := boxS w (.int .i64 b) (.bool s) (.slice A l.length c) (.int .i64 d) (.bool t) (.slice B k.length e) (.int .i64 0) (.bool false) (.slice none 0 0) 117
 obtain ⟨HA, HBx, HR, HB⟩ := hid4 bA bB bR hB0
 obtain ⟨a0, a1, a2, _, _, _, _⟩ := bA
 obtain ⟨b0, b1, b2, _, _, _, _⟩ := bB
 obtain ⟨g, hg⟩ : ∃ g, cmpP b d x y = g := ⟨_, rfl⟩
 have hle := cmpP_le h1 h2
 rw [hg] at hle
 have C0 := hid (icompare_p h1 h2 (hu.below hB0) (hv.below hB0) hl hl2 hg)
 clear hu hv hB0 h1 h2 bR hg
 rcases hp with ⟨hc, rfl, rfl, rfl, rfl, rfl⟩ | ⟨hc, rfl, rfl, rfl, rfl, rfl⟩
 all_goals
  have hd : decide (0 ≤ g) = _ := (decide_eq_decide.2 hle.2).trans hc
  clear hle hc
  go_enter Tryz.func80, Tryz.ntmps80
  go_wp2_with fail
  refine C0.out.mono ?_
  rintro e w1 ⟨rfl, hc1⟩
 · have hP := (HR.out.below hc1).put (from_ HB.out hc1) (by omega) (.int .i64 rb) (.bool rs) (.slice rA rl.length rc)
   have HP := hid hP
   obtain ⟨q0, q1, q2, f0, f1, f2, _⟩ := HR.out.below hc1
   obtain ⟨p0, p1, p2, _⟩ := HA.out.below hc1
   clear hP
   go_wp2
   refine bodyPost_ret (res_place rfl _ (w.heap.size + 2) rfl HP.out.c0 HP.out.c1 HP.out.c2) rfl ?_
   exact ⟨rfl, HP.out.bel⟩
 · have hP := (HR.out.below hc1).put (from_ HB.out hc1) (by omega) (.int .i64 rb) (.bool rs) (.slice rA rl.length rc)
   have HP := hid hP
   obtain ⟨q0, q1, q2, f0, f1, f2, _⟩ := HR.out.below hc1
   obtain ⟨p0, p1, p2, _⟩ := HBx.out.below hc1
   clear hP
   go_wp2
   refine bodyPost_ret (res_place rfl _ (w.heap.size + 2) rfl HP.out.c0 HP.out.c1 HP.out.c2) rfl ?_
   exact ⟨rfl, HP.out.bel⟩
structure Iv where
 n0 : Bool
 s0 : Bool
 l0 : List Nat
 n1 : Bool
 s1 : Bool
 l1 : List Nat
def Iv.ok (p : Iv) : Bool := okA p.n0 p.s0 p.l0 p.n1 p.s1 p.l1
def Iv.short (p : Iv) : Prop := p.l0.length ≤ 9000 ∧ p.l1.length ≤ 9000
def GivenA (w : World) (g : Nat) (ps : List Iv) : Prop :=
 ∀ j (h : j < ps.length), ∃ A c B d, w.cell? ⟨g, j * 6, none⟩ = some (.bool ps[j].n0) ∧ w.cell? ⟨g, j * 6 + 1, none⟩ = some (.bool ps[j].s0) ∧ w.cell? ⟨g, j * 6 + 2, none⟩ = some (.slice A ps[j].l0.length c) ∧ w.cell? ⟨g, j * 6 + 3, none⟩ = some (.bool ps[j].n1) ∧ w.cell? ⟨g, j * 6 + 4, none⟩ = some (.bool ps[j].s1) ∧ w.cell? ⟨g, j * 6 + 5, none⟩ = some (.slice B ps[j].l1.length d) ∧ U64s w old A c ps[j].l0 ∧ U64s w old B d ps[j].l1
theorem GivenA.below {ps : List Iv} (h : GivenA w g ps) (hb : Below w.heap.size w w') : GivenA w' g ps := fun j hj => by
 obtain ⟨A, c, B, d, h0, h1, h2, h3, h4, h5, h6, h7⟩ := h j hj
 exact ⟨A, c, B, d, keepC hb h0, keepC hb h1, keepC hb h2, keepC hb h3, keepC hb h4, keepC hb h5, h6.below hb, h7.below hb⟩
def errAs (ps : List Iv) : Int := if ps.all Iv.ok = true then 0 else 8
theorem errAs_two (p q : Iv) : errAs [p, q] = if p.ok = true ∧ q.ok = true then 0 else 8 := by simp [errAs]
theorem given_twoA {Y2 : Zone} {p q : Iv} {a b d : Nat} {ty : TypeId} (h1 : U64s w Z A a p.l0) (h2 : U64s w Y B b p.l1) (h3 : U64s w Z2 C c q.l0) (h4 : U64s w Y2 D d q.l1) :
  GivenA (w.alloc (.cells #[.bool p.n0, .bool p.s0, .slice A p.l0.length a, .bool p.n1, .bool p.s1, .slice B p.l1.length b, .bool q.n0, .bool q.s0, .slice C q.l0.length c, .bool q.n1, .bool q.s1, .slice D q.l1.length d] ty)) w.heap.size [p, q] := fun j hj => by
 have hb0 : Below w.heap.size w (w.alloc (.cells #[.bool p.n0, .bool p.s0, .slice A p.l0.length a, .bool p.n1, .bool p.s1, .slice B p.l1.length b, .bool q.n0, .bool q.s0, .slice C q.l0.length c, .bool q.n1, .bool q.s1, .slice D q.l1.length d] ty)) := (Below.refl _ w).alloc (Nat.le_refl _) _
 match j, hj with
 | 0, _ => exact ⟨A, a, B, b, cell_newest rfl rfl, cell_newest rfl rfl, cell_newest rfl rfl, cell_newest rfl rfl, cell_newest rfl rfl, cell_newest rfl rfl, (h1.below hb0).mono (le_old _), (h2.below hb0).mono (le_old _)⟩
 | 1, _ => exact ⟨C, c, D, d, cell_newest rfl rfl, cell_newest rfl rfl, cell_newest rfl rfl, cell_newest rfl rfl, cell_newest rfl rfl, cell_newest rfl rfl, (h3.below hb0).mono (le_old _), (h4.below hb0).mono (le_old _)⟩
theorem ichecked_any {n : Nat} {ps : List Iv} (h : GivenA w g ps) (hn : n = ps.length) (hl : ps.length ≤ 1000) (hsh : ∀ p ∈ ps, p.short) :
  Calls Tryz.prog 45 #[.slice (some ⟨g, 0, none⟩) n c] w fun e w' => e = .returned (.int .i64 (errAs ps)) ∧ Below w.heap.size w w' := by
 subst hn
 have Hsh := hid hsh
 clear hsh
 go_enter Tryz.func45, Tryz.ntmps45
 go_wp2
 go_loopw [8] (fun i wr => ∃ k : Nat, k ≤ ps.length ∧ i = .int .i64 k ∧ Below w.heap.size w wr ∧ Hid (∀ j (hj : j < ps.length), j < k → ps[j].ok = true)) (fun i _ => ps.length - (intOf i).toNat)
 case atStart => exact ⟨0, Nat.zero_le _, rfl, Below.refl _ _, fun j hj h => absurd h (by omega)⟩
 case round =>
  obtain ⟨k, hk, rfl, hbel, hz⟩ := hrel
  by_cases hlt : k < ps.length
  · obtain ⟨A, cA, B, cB, h0, h1, h2, h3, h4, h5, hu, hv⟩ := (h.below hbel) k hlt
    have hss := Hsh.out ps[k] (List.getElem_mem hlt)
    have hb1 : Below w.heap.size w (wr.alloc (.cells #[.bool ps[k].n0, .bool ps[k].s0, .slice A ps[k].l0.length cA, .bool ps[k].n1, .bool ps[k].s1, .slice B ps[k].l1.length cB] 29)) := hbel.alloc hbel.size _
    have hba : Below wr.heap.size wr (wr.alloc (.cells #[.bool ps[k].n0, .bool ps[k].s0, .slice A ps[k].l0.length cA, .bool ps[k].n1, .bool ps[k].s1, .slice B ps[k].l1.length cB] 29)) := (Below.refl _ wr).alloc (Nat.le_refl _) _
    have hck := icheck_any (n0 := ps[k].n0) (s0 := ps[k].s0) (n1 := ps[k].n1) (s1 := ps[k].s1) (hu.below hba) (hv.below hba) hss.1 hss.2
    have hok : ps[k].ok = true ∨ ps[k].ok = false := by cases ps[k].ok <;> simp
    have Hall : Hid (ps[k].ok = true → ∀ j (hj : j < ps.length), j < k + 1 → ps[j].ok = true) := fun hx j hj hjk => by
     rcases Nat.lt_or_ge j k with h1 | h1
     · exact hz.out j hj h1
     · obtain rfl : j = k := by omega
       exact hx
    have Hnone : Hid (ps[k].ok = false → errAs ps = 8) := fun hx => by
     unfold errAs
     rw [if_neg]
     intro hall
     have := List.all_eq_true.1 hall ps[k] (List.getElem_mem hlt)
     rw [this] at hx
     cases hx
    clear hu hv hz hba hss
    unfold Iv.ok at hok
    unfold errA at hck
    have Hok2 : Hid (ps[k].ok = okA ps[k].n0 ps[k].s0 ps[k].l0 ps[k].n1 ps[k].s1 ps[k].l1) := rfl
    generalize hp : ps[k] = p at *
    obtain ⟨n0, s0, l0, n1, s1, l1⟩ := p
    dsimp only at *
    rcases hok with hok | hok
    · rw [if_pos hok] at hck
      obtain ⟨Hck, Hok⟩ := hid2 hck hok
      clear hck hok hp
      go_wp2_with fail
      refine Hck.out.mono ?_
      rintro e w1 ⟨rfl, hb2⟩
      have hb3 := from_ hb1 hb2
      go_wp2
      go_roundw
      case rel => exact ⟨k + 1, by omega, by go_num, hb3, hid (Hall.out (Hok2.out.trans Hok.out))⟩
      case measure => simp [intOf]; omega
    · rw [if_neg (by rw [hok]; simp)] at hck
      obtain ⟨Hck, Hok⟩ := hid2 hck hok
      clear hck hok hp
      go_wp2_with fail
      refine Hck.out.mono ?_
      rintro e w1 ⟨rfl, hb2⟩
      have hb3 := from_ hb1 hb2
      go_wp2
      go_ret
      rw [Hnone.out (Hok2.out.trans Hok.out)]
      exact ⟨rfl, hb3⟩
  · obtain rfl : k = ps.length := by omega
    have he : errAs ps = 0 := by
     unfold errAs
     rw [if_pos]
     rw [List.all_eq_true]
     intro p hp
     obtain ⟨j, hj, rfl⟩ := List.getElem_of_mem hp
     exact hz.out j hj hj
    have He := hid he
    clear he
    go_wp2
    go_ret
    rw [He.out]
    exact ⟨rfl, hbel⟩
def loV (n s : Bool) (l : List Nat) : Int := bif n then -bigZ else zof s l
def hiV (n s : Bool) (l : List Nat) : Int := bif n then bigZ else zof s l
theorem zof_big {l : List Nat} (hs : Small l) (hl : l.length ≤ 60) : -bigZ < zof s l ∧ zof s l < bigZ := by
 have h1 := val_lt hs
 have h4 : (val l : Int) < bigZ := by
  have h5 : val l < 18446744073709551616 ^ 64 := Nat.lt_of_lt_of_le h1 (Nat.pow_le_pow_right (by decide) (by omega))
  have h6 : ((val l : Nat) : Int) < ((18446744073709551616 ^ 64 : Nat) : Int) := Int.ofNat_lt.2 h5
  rw [Int.natCast_pow] at h6
  exact h6
 unfold zof
 split <;> omega
theorem Plc.lo {n : Bool} {l : List Nat} (h : Plc (-1) n s l A c b s' l' A' c') (hk : okE n s l = true) (hs : Small l) (hl : l.length ≤ 60) : Pl (loV n s l) b s' l' := by
 rcases h with ⟨rfl, rfl, rfl, rfl, rfl, rfl⟩ | ⟨rfl, rfl, rfl, rfl, rfl, rfl⟩
 · exact Or.inr (Or.inr ⟨rfl, rfl, rfl, rfl⟩)
 · exact Or.inl ⟨rfl, Nm.ok hk hs, zof_big hs hl⟩
theorem Plc.hi {n : Bool} {l : List Nat} (h : Plc 1 n s l A c b s' l' A' c') (hk : okE n s l = true) (hs : Small l) (hl : l.length ≤ 60) : Pl (hiV n s l) b s' l' := by
 rcases h with ⟨rfl, rfl, rfl, rfl, rfl, rfl⟩ | ⟨rfl, rfl, rfl, rfl, rfl, rfl⟩
 · exact Or.inr (Or.inl ⟨rfl, rfl, rfl, rfl⟩)
 · exact Or.inl ⟨rfl, Nm.ok hk hs, zof_big hs hl⟩
theorem Plc.u64s {k : Int} {n : Bool} {l : List Nat} (h : Plc k n s l A c b s' l' A' c') (hu : U64s w Z A c l) : U64s w Z A' c' l' := by
 rcases h with ⟨rfl, rfl, rfl, rfl, rfl, rfl⟩ | ⟨rfl, rfl, rfl, rfl, rfl, rfl⟩
 · exact U64s.nil _ _
 · exact hu
theorem Plc.len {k : Int} {n : Bool} {l : List Nat} (h : Plc k n s l A c b s' l' A' c') : l'.length ≤ l.length := by
 rcases h with ⟨rfl, rfl, rfl, rfl, rfl, rfl⟩ | ⟨rfl, rfl, rfl, rfl, rfl, rfl⟩ <;> simp
theorem boxT (w : World) (a0 a1 a2 a3 a4 a5 b0 b1 b2 b3 b4 b5 : Value) (t : TypeId) :
  Box6 ((w.alloc (.cells #[a0, a1, a2, a3, a4, a5] t)).alloc (.cells #[b0, b1, b2, b3, b4, b5] t)) w.heap.size a0 a1 a2 a3 a4 a5 ∧
  Box6 ((w.alloc (.cells #[a0, a1, a2, a3, a4, a5] t)).alloc (.cells #[b0, b1, b2, b3, b4, b5] t)) (w.heap.size + 1) b0 b1 b2 b3 b4 b5 ∧
  Below w.heap.size w ((w.alloc (.cells #[a0, a1, a2, a3, a4, a5] t)).alloc (.cells #[b0, b1, b2, b3, b4, b5] t)) := by
 have h1 := (Box6.new w a0 a1 a2 a3 a4 a5 t).alloc (.cells #[b0, b1, b2, b3, b4, b5] t)
 have h2 := Box6.new (w.alloc (.cells #[a0, a1, a2, a3, a4, a5] t)) b0 b1 b2 b3 b4 b5 t
 rw [show (w.alloc (.cells #[a0, a1, a2, a3, a4, a5] t)).heap.size = w.heap.size + 1 by simp] at h2
 exact ⟨h1, h2, ((Below.refl _ w).alloc (Nat.le_refl _) _).alloc (by simp) _⟩
theorem boxT_keep 
  (hs : D6 W g a0 a1 a2 a3 a4 a5 (C6 W h b0 b1 b2 b3 b4 b5)) (hb : Below W.heap.size W W') :
  D6 W' g a0 a1 a2 a3 a4 a5 (C6 W' h b0 b1 b2 b3 b4 b5) := by
 obtain ⟨h0, h1, h2, h3, h4, h5, h6, h7, h8, h9, h10, h11⟩ := hs
 exact ⟨keepC hb h0, keepC hb h1, keepC hb h2, keepC hb h3, keepC hb h4, keepC hb h5, keepC hb h6, keepC hb h7, keepC hb h8, keepC hb h9, keepC hb h10, keepC hb h11⟩
theorem boxT_of (h1 : Box6 W g a0 a1 a2 a3 a4 a5) (h2 : Box6 W h b0 b1 b2 b3 b4 b5) :
  D6 W g a0 a1 a2 a3 a4 a5 (C6 W h b0 b1 b2 b3 b4 b5) :=
 ⟨h1.c0, h1.c1, h1.c2, h1.c3, h1.c4, h1.c5, h2.c0, h2.c1, h2.c2, h2.c3, h2.c4, h2.c5⟩
theorem okA_ends (h : okA n0 s0 l0 n1 s1 l1 = true) : okE n0 s0 l0 = true ∧ okE n1 s1 l1 = true := by
 unfold okA at h
 simp only [Bool.and_eq_true] at h
 exact ⟨h.1, h.2.1⟩
theorem iin_good {a b d : Nat}
  (u1 : U64s w Z1 A a l0) (u2 : U64s w Z2 B b l1) (u3 : U64s w Z3 C c k0) (u4 : U64s w Z4 D d k1) (h1 : okA n0 s0 l0 n1 s1 l1 = true) (h2 : okA m0 t0 k0 m1 t1 k1 = true)
  (q1 : l0.length ≤ 60) (q2 : l1.length ≤ 60) (q3 : k0.length ≤ 60) (q4 : k1.length ≤ 60) {r : Bool} (hr : decide (loV m0 t0 k0 ≤ loV n0 s0 l0 ∧ hiV n1 s1 l1 ≤ hiV m1 t1 k1) = r) :
  Calls Tryz.prog 35 #[.agg #[.bool n0, .bool s0, .slice A l0.length a, .bool n1, .bool s1, .slice B l1.length b], .agg #[.bool m0, .bool t0, .slice C k0.length c, .bool m1, .bool t1, .slice D k1.length d]] w fun e w' => e = .returned (.tuple #[.bool r, .int .i64 0]) ∧ Below w.heap.size w w' := by
 obtain ⟨bA, bB, hB0⟩ := boxT w (.bool n0) (.bool s0) (.slice A l0.length a) (.bool n1) (.bool s1) (.slice B l1.length b) (.bool m0) (.bool t0) (.slice C k0.length c) (.bool m1) (.bool t1) (.slice D k1.length d) 29
 have hb1 := hB0.alloc hB0.size (.cells #[.bool n0, .bool s0, .slice A l0.length a, .bool n1, .bool s1, .slice B l1.length b, .bool m0, .bool t0, .slice C k0.length c, .bool m1, .bool t1, .slice D k1.length d] 29)
 have hg := given_twoA (p := ⟨n0, s0, l0, n1, s1, l1⟩) (q := ⟨m0, t0, k0, m1, t1, k1⟩) (ty := 29) (u1.below hB0) (u2.below hB0) (u3.below hB0) (u4.below hB0)
 rw [show ((w.alloc (.cells #[.bool n0, .bool s0, .slice A l0.length a, .bool n1, .bool s1, .slice B l1.length b] 29)).alloc (.cells #[.bool m0, .bool t0, .slice C k0.length c, .bool m1, .bool t1, .slice D k1.length d] 29)).heap.size = w.heap.size + 2 by simp] at hg
 have hck := ichecked_any (n := 2) (c := 2) hg rfl (by simp) (by intro p hp; simp only [List.mem_cons, List.not_mem_nil, or_false] at hp; rcases hp with rfl | rfl <;> exact ⟨by dsimp only; omega, by dsimp only; omega⟩)
 rw [errAs_two, if_pos ⟨h1, h2⟩] at hck
 obtain ⟨ea1, ea2⟩ := okA_ends h1
 obtain ⟨eb1, eb2⟩ := okA_ends h2
 obtain ⟨x1, xs1, xl1, xA1, xc1, P1⟩ := Plc.ex (-1) n0 s0 l0 A a
 obtain ⟨x2, xs2, xl2, xA2, xc2, P2⟩ := Plc.ex 1 n1 s1 l1 B b
 obtain ⟨x3, xs3, xl3, xA3, xc3, P3⟩ := Plc.ex (-1) m0 t0 k0 C c
 obtain ⟨x4, xs4, xl4, xA4, xc4, P4⟩ := Plc.ex 1 m1 t1 k1 D d
 have p1 := P1.lo ea1 u1.small q1
 have p2 := P2.hi ea2 u2.small q2
 have p3 := P3.lo eb1 u3.small q3
 have p4 := P4.hi eb2 u4.small q4
 have r1 := P1.len
 have r2 := P2.len
 have r3 := P3.len
 have r4 := P4.len
 have v1 := P1.u64s u1
 have v2 := P2.u64s u2
 have v3 := P3.u64s u3
 have v4 := P4.u64s u4
 obtain ⟨g1, hg1⟩ : ∃ g, cmpP x3 x1 (loV m0 t0 k0) (loV n0 s0 l0) = g := ⟨_, rfl⟩
 obtain ⟨g2, hg2⟩ : ∃ g, cmpP x2 x4 (hiV n1 s1 l1) (hiV m1 t1 k1) = g := ⟨_, rfl⟩
 have e1 := (cmpP_le p3 p1).1
 have e2 := (cmpP_le p2 p4).1
 rw [hg1] at e1
 rw [hg2] at e2
 obtain ⟨L1, L2, L3, L4, C1, C2⟩ := hid6 (fun (W : World) => ilow_p (w := W) (v3 := .bool n1) (v4 := .bool s1) (v5 := .slice B l1.length b) P1) (fun (W : World) => ihigh_p (w := W) (v3 := .bool n0) (v4 := .bool s0) (v5 := .slice A l0.length a) P2) (fun (W : World) => ilow_p (w := W) (v3 := .bool m1) (v4 := .bool t1) (v5 := .slice D k1.length d) P3) (fun (W : World) => ihigh_p (w := W) (v3 := .bool m0) (v4 := .bool t0) (v5 := .slice C k0.length c) P4) (fun (W : World) (h : Below w.heap.size w W) => icompare_p p3 p1 (v3.below h) (v1.below h) (by omega) (by omega) hg1) (fun (W : World) (h : Below w.heap.size w W) => icompare_p p2 p4 (v2.below h) (v4.below h) (by omega) (by omega) hg2)
 obtain ⟨Hck, Hb1, HA, HB⟩ := hid4 hck hb1 (bA.alloc (.cells #[.bool n0, .bool s0, .slice A l0.length a, .bool n1, .bool s1, .slice B l1.length b, .bool m0, .bool t0, .slice C k0.length c, .bool m1, .bool t1, .slice D k1.length d] 29)) (bB.alloc (.cells #[.bool n0, .bool s0, .slice A l0.length a, .bool n1, .bool s1, .slice B l1.length b, .bool m0, .bool t0, .slice C k0.length c, .bool m1, .bool t1, .slice D k1.length d] 29))
 obtain ⟨a0, a1, a2, a3, a4, a5, _, _, _, _, _, _, _⟩ := bA
 obtain ⟨b0, b1, b2, b3, b4, b5, _, _, _, _, _, _, _⟩ := bB
 have hd1 : decide (g1 ≤ 0) = decide (loV m0 t0 k0 ≤ loV n0 s0 l0) := decide_eq_decide.2 e1
 have hd2 : decide (g2 ≤ 0) = decide (hiV n1 s1 l1 ≤ hiV m1 t1 k1) := decide_eq_decide.2 e2
 rw [Bool.decide_and, ← hd1, ← hd2] at hr
 clear hck hb1 hB0 u1 u2 u3 u4 h1 h2 ea1 ea2 eb1 eb2 P1 P2 P3 P4 p1 p2 p3 p4 r1 r2 r3 r4 v1 v2 v3 v4 hg1 hg2 e1 e2 hd1 hd2 hg q1 q2 q3 q4
 cases hc1 : decide (g1 ≤ 0) with
 | false =>
   rw [hc1] at hr
   obtain rfl : r = false := by rw [← hr]; rfl
   have Hr := hid hr
   clear hr
   go_enter Tryz.func35, Tryz.ntmps35
   go_wp2_with fail
   refine Hck.out.mono ?_
   rintro e w1 ⟨rfl, hc⟩
   have Hc := hid (from_ Hb1.out hc).drew
   have hs := boxT_keep (boxT_of HA.out HB.out) (hc.drew)
   clear a0 a1 a2 a3 a4 a5 b0 b1 b2 b3 b4 b5
   go_wp2
   (first | go_region_with (first
    | (go_at_call 58; (first | (with_reducible refine (L1.out _).mono ?_) | (with_reducible refine (L3.out _).mono ?_)); rintro e w2 ⟨rfl, hc2⟩; have hs := boxT_keep hs hc2; obtain ⟨a0, a1, a2, a3, a4, a5, b0, b1, b2, b3, b4, b5⟩ := id hs; have Hc := hid (from_ Hc.out hc2))
    | (go_at_call 57; (first | (with_reducible refine (C1.out _ Hc.out).mono ?_) | (with_reducible refine (C2.out _ Hc.out).mono ?_)); rintro e w2 ⟨rfl, hc2⟩; have hs := boxT_keep hs hc2; have Hc := hid (from_ Hc.out hc2))) | fail)
   all_goals
    go_wp2
    go_ret2
    exact ⟨rfl, Hc.out⟩
 | true =>
   rw [hc1, Bool.true_and] at hr
   go_enter Tryz.func35, Tryz.ntmps35
   go_wp2_with fail
   refine Hck.out.mono ?_
   rintro e w1 ⟨rfl, hc⟩
   have Hc := hid (from_ Hb1.out hc).drew
   have hs := boxT_keep (boxT_of HA.out HB.out) (hc.drew)
   clear a0 a1 a2 a3 a4 a5 b0 b1 b2 b3 b4 b5
   go_wp2
   go_region_held3 (fun w' => D6 w' w.heap.size (.bool n0) (.bool s0) (.slice A l0.length a) (.bool n1) (.bool s1) (.slice B l1.length b) (C6 w' (w.heap.size + 1) (.bool m0) (.bool t0) (.slice C k0.length c) (.bool m1) (.bool t1) (.slice D k1.length d)))
    (first
     | (go_keep; done)
     | exact hs)
    (first
     | (go_at_call 58; (first | (with_reducible refine (L1.out _).mono ?_) | (with_reducible refine (L3.out _).mono ?_)); rintro e w2 ⟨rfl, hc2⟩; have hs := boxT_keep hs hc2; have Hc := hid (from_ Hc.out hc2))
     | (go_at_call 59; (first | (with_reducible refine (L2.out _).mono ?_) | (with_reducible refine (L4.out _).mono ?_)); rintro e w2 ⟨rfl, hc2⟩; have hs := boxT_keep hs hc2; have Hc := hid (from_ Hc.out hc2))
     | (go_at_call 57; (first | (with_reducible refine (C1.out _ Hc.out).mono ?_) | (with_reducible refine (C2.out _ Hc.out).mono ?_)); rintro e w2 ⟨rfl, hc2⟩; have hs := boxT_keep hs hc2; have Hc := hid (from_ Hc.out hc2)))
   all_goals
    go_wp2
    go_ret2
    exact ⟨rfl, Hc.out⟩
theorem isame1_any {n m : Bool} {l k : List Nat} {a b : Nat} (u : U64s w Z A a l) (v : U64s w Y B b k) :
  Calls Tryz.prog 12 #[.agg #[.bool n, .bool s, .slice A l.length a], .agg #[.bool m, .bool t, .slice B k.length b]] w fun e w' => e = .returned (.bool (decide (n = m ∧ s = t ∧ l = k))) ∧ Below w.heap.size w w' := by
 obtain ⟨bA, bB, hB0⟩ := boxQ w (.bool n) (.bool s) (.slice A l.length a) (.bool m) (.bool t) (.slice B k.length b) 27 27
 obtain ⟨Hb, M1⟩ := hid2 hB0 (wsame_any (a := .agg #[.bool s, .slice A l.length a]) (b := .agg #[.bool t, .slice B k.length b]) ⟨_, rfl, A, a, rfl, u.below hB0⟩ ⟨_, rfl, B, b, rfl, v.below hB0⟩)
 obtain ⟨a0, a1, a2, _, _, _, _⟩ := bA
 obtain ⟨b0, b1, b2, _, _, _, _⟩ := bB
 clear u v hB0
 obtain ⟨r, hr⟩ : ∃ r, decide (n = m ∧ s = t ∧ l = k) = r := ⟨_, rfl⟩
 rw [hr]
 by_cases hn : n = m
 · have e1 : decide (s = t ∧ l = k) = r := by rw [← hr]; exact decide_eq_decide.2 ⟨fun h => ⟨hn, h⟩, fun h => h.2⟩
   rw [e1] at M1
   subst hn
   clear hr e1
   cases r
   all_goals
    go_enter Tryz.func12, Tryz.ntmps12
    go_wp2_with fail
    refine M1.out.mono ?_
    rintro e w1 ⟨rfl, hc⟩
    have Hz := hid (from_ Hb.out hc)
    go_wp2
    go_ret
    exact ⟨rfl, Hz.out⟩
 · obtain rfl : r = false := by rw [← hr]; exact decide_eq_false (fun h => hn h.1)
   have hd : (n == m) = false := beq_false_of_ne hn
   have hd2 : decide (n = m) = false := decide_eq_false hn
   clear hr M1
   go_enter Tryz.func12, Tryz.ntmps12
   go_wp2
   go_ret
   exact ⟨rfl, Hb.out⟩
theorem isame_any {a b d : Nat}
  (u1 : U64s w Z1 A a l0) (u2 : U64s w Z2 B b l1) (u3 : U64s w Z3 C c k0) (u4 : U64s w Z4 D d k1) :
  Calls Tryz.prog 7 #[.agg #[.bool n0, .bool s0, .slice A l0.length a, .bool n1, .bool s1, .slice B l1.length b], .agg #[.bool m0, .bool t0, .slice C k0.length c, .bool m1, .bool t1, .slice D k1.length d]] w fun e w' => e = .returned (.bool (decide ((n0 = m0 ∧ s0 = t0 ∧ l0 = k0) ∧ n1 = m1 ∧ s1 = t1 ∧ l1 = k1))) ∧ Below w.heap.size w w' := by
 obtain ⟨bA, bB, hB0⟩ := boxT w (.bool n0) (.bool s0) (.slice A l0.length a) (.bool n1) (.bool s1) (.slice B l1.length b) (.bool m0) (.bool t0) (.slice C k0.length c) (.bool m1) (.bool t1) (.slice D k1.length d) 29
 have Hb := hid hB0
 have hs := boxT_of bA bB
 obtain ⟨M1, M2⟩ := hid2 (fun (W : World) (h : Below w.heap.size w W) => isame1_any (n := n0) (s := s0) (m := m0) (t := t0) (u1.below h) (u3.below h)) (fun (W : World) (h : Below w.heap.size w W) => isame1_any (n := n1) (s := s1) (m := m1) (t := t1) (u2.below h) (u4.below h))
 obtain ⟨r, hr⟩ : ∃ r, decide ((n0 = m0 ∧ s0 = t0 ∧ l0 = k0) ∧ n1 = m1 ∧ s1 = t1 ∧ l1 = k1) = r := ⟨_, rfl⟩
 rw [hr]
 obtain ⟨p, hp⟩ : ∃ p, decide (n0 = m0 ∧ s0 = t0 ∧ l0 = k0) = p := ⟨_, rfl⟩
 obtain ⟨q, hq⟩ : ∃ q, decide (n1 = m1 ∧ s1 = t1 ∧ l1 = k1) = q := ⟨_, rfl⟩
 rw [hp] at M1
 rw [hq] at M2
 rw [Bool.decide_and, hp, hq] at hr
 clear u1 u2 u3 u4 bA bB hB0 hp hq
 cases p with
 | false =>
   obtain rfl : r = false := by rw [← hr]; rfl
   clear hr
   obtain ⟨a0, a1, a2, a3, a4, a5, b0, b1, b2, b3, b4, b5⟩ := id hs
   go_enter Tryz.func7, Tryz.ntmps7
   go_wp2_with fail
   refine (M1.out _ Hb.out).mono ?_
   rintro e w1 ⟨rfl, hc⟩
   have hs := boxT_keep hs hc
   have Hb := hid (from_ Hb.out hc)
   clear a0 a1 a2 a3 a4 a5 b0 b1 b2 b3 b4 b5
   obtain ⟨a0, a1, a2, a3, a4, a5, b0, b1, b2, b3, b4, b5⟩ := id hs
   go_wp2
   go_ret
   exact ⟨rfl, Hb.out⟩
 | true =>
   obtain rfl : q = r := by rw [← hr, Bool.true_and]
   clear hr
   cases q
   all_goals
    obtain ⟨a0, a1, a2, a3, a4, a5, b0, b1, b2, b3, b4, b5⟩ := id hs
    go_enter Tryz.func7, Tryz.ntmps7
    go_wp2_with fail
    refine (M1.out _ Hb.out).mono ?_
    rintro e w1 ⟨rfl, hc⟩
    have hs := boxT_keep hs hc
    have Hb := hid (from_ Hb.out hc)
    clear a0 a1 a2 a3 a4 a5 b0 b1 b2 b3 b4 b5
    obtain ⟨a0, a1, a2, a3, a4, a5, b0, b1, b2, b3, b4, b5⟩ := id hs
    go_wp2_with fail
    refine (M2.out _ Hb.out).mono ?_
    rintro e w1 ⟨rfl, hc⟩
    have hs := boxT_keep hs hc
    have Hb := hid (from_ Hb.out hc)
    clear a0 a1 a2 a3 a4 a5 b0 b1 b2 b3 b4 b5
    obtain ⟨a0, a1, a2, a3, a4, a5, b0, b1, b2, b3, b4, b5⟩ := id hs
    go_wp2
    go_ret
    exact ⟨rfl, Hb.out⟩
def Ext (B M x : Int) : Prop := x = B ∨ x = -B ∨ (-M < x ∧ x < M)
def lo4 (a b c d : Int) : Int := min (min a b) (min c d)
def hi4 (a b c d : Int) : Int := max (max a b) (max c d)
def plusE (B x y : Int) : Int := if x = -B ∨ y = -B then -B else if x = B ∨ y = B then B else x + y
def overE (B x y : Int) : Int := if y = B ∨ y = -B then 0 else if x = B ∨ x = -B then (if (0 < x ↔ 0 < y) then B else -B) else Int.tdiv x y
theorem tdiv_bd (hx : -M < x ∧ x < M) : -M < Int.tdiv x y ∧ Int.tdiv x y < M := by
 have h : (Int.tdiv x y).natAbs = x.natAbs / y.natAbs := Int.natAbs_tdiv x y
 have h2 := Nat.div_le_self x.natAbs y.natAbs
 generalize x.natAbs / y.natAbs = r at *
 generalize Int.tdiv x y = q at *
 omega
def nLo (x : Int) : Bool := decide (x = -bigZ)
def nHi (x : Int) : Bool := decide (x = bigZ)
def sE (x : Int) : Bool := decide (-bigZ < x ∧ x < 0)
def lE (x : Int) : List Nat := if -bigZ < x ∧ x < bigZ then limbs x.natAbs else []
def bE (x : Int) : Int := if x = bigZ then 1 else if x = -bigZ then -1 else 0
theorem Pl.range {l : List Nat} (h : Pl x b s l) : -bigZ ≤ x ∧ x ≤ bigZ := by
 have := bigZ_pos
 rcases h with ⟨_, _, h1, h2⟩ | ⟨_, _, _, h⟩ | ⟨_, _, _, h⟩ <;> omega
theorem Pl.all (h : -bigZ ≤ x ∧ x ≤ bigZ) : Pl x (bE x) (sE x) (lE x) := by
 have := bigZ_pos
 unfold bE sE lE
 by_cases h1 : x = bigZ
 · rw [if_pos h1, if_neg (by omega)]
   exact Or.inr (Or.inl ⟨rfl, decide_eq_false (by omega), rfl, h1⟩)
 · by_cases h2 : x = -bigZ
   · rw [if_neg h1, if_pos h2, if_neg (by omega)]
     exact Or.inr (Or.inr ⟨rfl, decide_eq_false (by omega), rfl, h2⟩)
   · rw [if_neg h1, if_neg h2, if_pos (by omega)]
     exact Or.inl ⟨rfl, ⟨decide_eq_decide.2 (by omega), rfl⟩, by omega, by omega⟩
theorem Pl.uniq {l : List Nat} (h : Pl x b s l) : b = bE x ∧ s = sE x ∧ l = lE x := by
 have h0 := bigZ_pos
 unfold bE sE lE
 rcases h with ⟨rfl, ⟨rfl, rfl⟩, h1, h2⟩ | ⟨rfl, rfl, rfl, h⟩ | ⟨rfl, rfl, rfl, h⟩
 · rw [if_neg (by omega), if_neg (by omega), if_pos (by omega)]
   exact ⟨rfl, decide_eq_decide.2 (by omega), rfl⟩
 · rw [if_pos h, if_neg (by omega)]
   exact ⟨rfl, (decide_eq_false (by omega)).symm, rfl⟩
 · rw [if_neg (by omega), if_pos h, if_neg (by omega)]
   exact ⟨rfl, (decide_eq_false (by omega)).symm, rfl⟩
theorem Pl.nlo {l : List Nat} (h : Pl x b s l) (hx : x < bigZ) : (b != 0) = nLo x := by
 obtain ⟨rfl, _, _⟩ := h.uniq
 have h0 := bigZ_pos
 unfold bE nLo
 rw [if_neg (by omega)]
 by_cases h2 : x = -bigZ
 · rw [if_pos h2, decide_eq_true h2]; rfl
 · rw [if_neg h2, decide_eq_false h2]; rfl
theorem Pl.nhi {l : List Nat} (h : Pl x b s l) (hx : -bigZ < x) : (b != 0) = nHi x := by
 obtain ⟨rfl, _, _⟩ := h.uniq
 have h0 := bigZ_pos
 unfold bE nHi
 by_cases h2 : x = bigZ
 · rw [if_pos h2, decide_eq_true h2]; rfl
 · rw [if_neg h2, if_neg (by omega), decide_eq_false h2]; rfl
def ivOf (x y : Int) : Iv := ⟨nLo x, sE x, lE x, nHi y, sE y, lE y⟩
def Iv.lo (p : Iv) : Int := loV p.n0 p.s0 p.l0
def Iv.hi (p : Iv) : Int := hiV p.n1 p.s1 p.l1
structure Iv.fine (p : Iv) (N : Nat) : Prop where
 m0 : Small p.l0
 m1 : Small p.l1
 q0 : p.l0.length ≤ N
 q1 : p.l1.length ≤ N
theorem lo_range {n : Bool} {l : List Nat} (hs : Small l) (hl : l.length ≤ 60) : -bigZ ≤ loV n s l ∧ loV n s l < bigZ := by
 have := zof_big (s := s) hs hl
 have := bigZ_pos
 cases n
 · show -bigZ ≤ zof s l ∧ zof s l < bigZ; omega
 · show -bigZ ≤ -bigZ ∧ -bigZ < bigZ; omega
theorem hi_range {n : Bool} {l : List Nat} (hs : Small l) (hl : l.length ≤ 60) : -bigZ < hiV n s l ∧ hiV n s l ≤ bigZ := by
 have := zof_big (s := s) hs hl
 have := bigZ_pos
 cases n
 · show -bigZ < zof s l ∧ zof s l ≤ bigZ; omega
 · show -bigZ < bigZ ∧ bigZ ≤ bigZ; omega
theorem Iv.is {p : Iv} (h : p.ok = true) (hf : p.fine 60) : p = ivOf p.lo p.hi := by
 obtain ⟨n0, s0, l0, n1, s1, l1⟩ := p
 obtain ⟨h1, h2⟩ := okA_ends h
 obtain ⟨m0, m1, q0, q1⟩ := hf
 dsimp only at *
 have a0 := zof_big (s := s0) m0 q0
 have a1 := zof_big (s := s1) m1 q1
 obtain ⟨b, s', l', A', c', P⟩ := Plc.ex (-1) n0 s0 l0 none 0
 obtain ⟨d, t', k', B', e', Q⟩ := Plc.ex 1 n1 s1 l1 none 0
 have u := P.lo h1 m0 q0
 have v := Q.hi h2 m1 q1
 have hb := bigZ_pos
 have r1 := lo_range (n := n0) (s := s0) m0 q0
 have r2 := hi_range (n := n1) (s := s1) m1 q1
 have nu := u.nlo r1.2
 have nv := v.nhi r2.1
 obtain ⟨hb1, hs1, hl1⟩ := u.uniq
 obtain ⟨hb2, hs2, hl2⟩ := v.uniq
 unfold ivOf Iv.lo Iv.hi
 dsimp only
 rw [← nu, ← nv, ← hs1, ← hl1, ← hs2, ← hl2]
 have e1 : okE n0 s0 l0 = true → n0 = true → s0 = false ∧ l0 = [] := fun h hn => by subst hn; simpa [okE] using h
 have e2 : okE n1 s1 l1 = true → n1 = true → s1 = false ∧ l1 = [] := fun h hn => by subst hn; simpa [okE] using h
 rcases P with ⟨hn, hb', hs', hl', _, _⟩ | ⟨hn, hb', hs', hl', _, _⟩ <;> rcases Q with ⟨hn2, hb2', hs2', hl2', _, _⟩ | ⟨hn2, hb2', hs2', hl2', _, _⟩
 · obtain ⟨f1, f2⟩ := e1 h1 hn
   obtain ⟨f3, f4⟩ := e2 h2 hn2
   subst hn hb' hs' hl' hn2 hb2' hs2' hl2' f1 f2 f3 f4
   rfl
 · obtain ⟨f1, f2⟩ := e1 h1 hn
   subst hn hb' hs' hl' hn2 hb2' hs2' hl2' f1 f2
   rfl
 · obtain ⟨f3, f4⟩ := e2 h2 hn2
   subst hn hb' hs' hl' hn2 hb2' hs2' hl2' f3 f4
   rfl
 · subst hn hb' hs' hl' hn2 hb2' hs2' hl2'
   rfl
theorem BoxL.of6 {b c : Value} (h : Box6 W g a b c d e f) : BoxL W g [a, b, c, d, e, f] := by
 refine ⟨fun j v hv => ?_, fun j v hv => ?_, h.lt⟩ <;> rcases j with _ | _ | _ | _ | _ | _ | j <;> simp at hv <;> subst hv
 · exact h.c0
 · exact h.c1
 · exact h.c2
 · exact h.c3
 · exact h.c4
 · exact h.c5
 · exact h.f0
 · exact h.f1
 · exact h.f2
 · exact h.f3
 · exact h.f4
 · exact h.f5
theorem BoxL.six {b c : Value} (h : BoxL W g [a, b, c, d, e, f]) : Box6 W g a b c d e f :=
 ⟨h.c 0 _ rfl, h.c 1 _ rfl, h.c 2 _ rfl, h.c 3 _ rfl, h.c 4 _ rfl, h.c 5 _ rfl, h.f 0 _ rfl, h.f 1 _ rfl, h.f 2 _ rfl, h.f 3 _ rfl, h.f 4 _ rfl, h.f 5 _ rfl, h.lt⟩
structure Put6 (w W' : World) (g : Nat) (x0 x1 x2 x3 x4 x5 : Value) : Prop where
 box : Box6 W' g x0 x1 x2 x3 x4 x5
 bel : Below w.heap.size w W'
theorem Box6.put {b c : Value} (h : Box6 W g a b c d e f) (hB : Below w.heap.size w W) (hg : w.heap.size ≤ g) (x0 x1 x2 x3 x4 x5 : Value) :
   Put6 w ((((((W.setCell ⟨g, 0, none⟩ x0).setCell ⟨g, 1, none⟩ x1).setCell ⟨g, 2, none⟩ x2).setCell ⟨g, 3, none⟩ x3).setCell ⟨g, 4, none⟩ x4).setCell ⟨g, 5, none⟩ x5) g x0 x1 x2 x3 x4 x5 :=
 ⟨BoxL.six ((((((((BoxL.of6 h).set 0 x0 rfl).set 1 x1 rfl).set 2 x2 rfl).set 3 x3 rfl).set 4 x4 rfl).set 5 x5 rfl)),
  (((((hB.setCell (p := ⟨g, 0, none⟩) hg _).setCell (p := ⟨g, 1, none⟩) hg _).setCell (p := ⟨g, 2, none⟩) hg _).setCell (p := ⟨g, 3, none⟩) hg _).setCell (p := ⟨g, 4, none⟩) hg _).setCell (p := ⟨g, 5, none⟩) hg _⟩
theorem U64s.set6 {l : List Nat} (h : U64s W Z A c l) (hz : ¬ Z.blk g) (x0 x1 x2 x3 x4 x5 : Value) :
  U64s ((((((W.setCell ⟨g, 0, none⟩ x0).setCell ⟨g, 1, none⟩ x1).setCell ⟨g, 2, none⟩ x2).setCell ⟨g, 3, none⟩ x3).setCell ⟨g, 4, none⟩ x4).setCell ⟨g, 5, none⟩ x5) Z A c l :=
 (((((h.set1 g 0 hz x0).set1 g 1 hz x1).set1 g 2 hz x2).set1 g 3 hz x3).set1 g 4 hz x4).set1 g 5 hz x5
theorem wof_p {n : Int} {l : List Nat} (h : Nm n s l) (hn : -9223372036854775808 ≤ n ∧ n ≤ 9223372036854775807) :
  Calls Tryz.prog 11 #[.int .i64 n] w fun e w' => ∃ A c, e = .returned (.agg #[.bool s, .slice A l.length c]) ∧ U64s w' (new w.heap.size) A c l ∧ Below w.heap.size w w' := by
 refine (wof_any hn).mono ?_
 rintro e w' ⟨v, rfl, hv, hb⟩
 obtain ⟨A, c, rfl, h1⟩ := h.of hv
 exact ⟨A, c, rfl, h1, hb⟩
theorem int_big {n : Int} (hn : -9223372036854775808 ≤ n ∧ n ≤ 9223372036854775807) : -bigZ < n ∧ n < bigZ := by
 have : (9223372036854775808 : Int) < bigZ := by
  unfold bigZ
  have h1 : (18446744073709551616 : Int) ^ 64 = 18446744073709551616 * 18446744073709551616 ^ 63 := by rw [← Int.pow_succ']
  have h2 : (0 : Int) < 18446744073709551616 ^ 63 := Int.pow_pos (by decide)
  rw [h1]
  omega
 omega
theorem nm_e {n : Int} (hn : -bigZ < n ∧ n < bigZ) : Nm n (sE n) (lE n) := by
 unfold sE lE
 rw [if_pos hn]
 exact ⟨decide_eq_decide.2 (by omega), rfl⟩
theorem nLo_no {n : Int} (hn : -bigZ < n) : nLo n = false := decide_eq_false (by omega)
theorem nHi_no {n : Int} (hn : n < bigZ) : nHi n = false := decide_eq_false (by omega)
theorem len_e {n : Int} (hn : -9223372036854775808 ≤ n ∧ n ≤ 9223372036854775807) : (lE n).length ≤ 1 := by
 unfold lE
 rw [if_pos (int_big hn)]
 exact len_limbs_le (by rw [Nat.pow_one]; omega)
theorem iof_good (hx : -9223372036854775808 ≤ x ∧ x ≤ 9223372036854775807) (hy : -9223372036854775808 ≤ y ∧ y ≤ 9223372036854775807) (h : x ≤ y) :
  Calls Tryz.prog 5 #[.int .i64 x, .int .i64 y] w fun e w' => ∃ A c B d, e = .returned (.tuple #[.agg #[.bool (nLo x), .bool (sE x), .slice A (lE x).length c, .bool (nHi y), .bool (sE y), .slice B (lE y).length d], .int .i64 0]) ∧ U64s w' (new w.heap.size) A c (lE x) ∧ U64s w' (new w.heap.size) B d (lE y) ∧ Below w.heap.size w w' := by
 have n1 := nm_e (int_big hx)
 have n2 := nm_e (int_big hy)
 have l1 := len_e hx
 have l2 := len_e hy
 rw [nLo_no (int_big hx).1, nHi_no (int_big hy).2]
 obtain ⟨s, hs⟩ : ∃ s, s = sE x := ⟨_, rfl⟩
 obtain ⟨l, hl⟩ : ∃ l, l = lE x := ⟨_, rfl⟩
 obtain ⟨t, ht⟩ : ∃ t, t = sE y := ⟨_, rfl⟩
 obtain ⟨k, hk⟩ : ∃ k, k = lE y := ⟨_, rfl⟩
 rw [← hs, ← hl] at n1
 rw [← ht, ← hk] at n2
 rw [← hl] at l1
 rw [← hk] at l2
 rw [← hs, ← hl, ← ht, ← hk]
 obtain ⟨N1, N2, Hx, Hy⟩ := hid4 n1 n2 hx hy
 have hd : decide (y < x) = false := decide_eq_false (by omega)
 obtain ⟨hb0, hB⟩ := hid2 ((Below.refl _ w).alloc (Nat.le_refl _) (.cells #[.bool false, .bool false, .slice none 0 0, .bool false, .bool false, .slice none 0 0] 29)) (Box6.new w (.bool false) (.bool false) (.slice none 0 0) (.bool false) (.bool false) (.slice none 0 0) 29)
 clear n1 n2 hs hl ht hk hx hy h
 go_enter Tryz.func5, Tryz.ntmps5
 go_wp2_with fail
 refine (wof_p N1.out Hx.out).mono ?_
 rintro e w1 ⟨A1, c1, rfl, u1, hc1⟩
 obtain ⟨H1, B1⟩ := hid2 (from_ hb0.out hc1) (hB.out.below hc1)
 go_wp2_with fail
 refine (iat_p u1 (by omega)).mono ?_
 rintro e w2 ⟨A2, c2, rfl, u2, hc2⟩
 obtain ⟨H2, B2⟩ := hid2 (from_ H1.out hc2) (B1.out.below hc2)
 clear u1
 go_wp2_with fail
 refine (wof_p N2.out Hy.out).mono ?_
 rintro e w3 ⟨A3, c3, rfl, u3, hc3⟩
 obtain ⟨H3, B3⟩ := hid2 (from_ H2.out hc3) (B2.out.below hc3)
 go_wp2_with fail
 refine (iat_p u3 (by omega)).mono ?_
 rintro e w4 ⟨A4, c4, rfl, u4, hc4⟩
 have H4 := hid (from_ H3.out hc4)
 have B4 := B3.out.below hc4
 have HP := hid (B4.put H4.out (Nat.le_refl _) (.bool false) (.bool s) (.slice A2 l.length c2) (.bool false) (.bool t) (.slice A4 k.length c4))
 have s1 := B1.out.lt
 have s3 := B3.out.lt
 obtain ⟨U2, U4⟩ := hid2 ((((u2.below hc3).below hc4).set6 (g := w.heap.size) (fun (h : w1.heap.size ≤ w.heap.size) => by omega) (.bool false) (.bool s) (.slice A2 l.length c2) (.bool false) (.bool t) (.slice A4 k.length c4)).mono (new_le (Nat.le_of_lt s1))) ((u4.set6 (g := w.heap.size) (fun (h : w3.heap.size ≤ w.heap.size) => by omega) (.bool false) (.bool s) (.slice A2 l.length c2) (.bool false) (.bool t) (.slice A4 k.length c4)).mono (new_le (Nat.le_of_lt s3)))
 have q0 := B4.cf
 clear u2 u3 u4 hc1 hc2 hc3 hc4 s1 s3
 go_wp2
 refine bodyPost_ret (res_itv2 rfl _ w.heap.size rfl HP.out.box) rfl ?_
 exact ⟨_, _, _, _, rfl, U2.out, U4.out, HP.out.bel⟩
theorem st6 {b : Nat} {x0 x1 x2 x3 x4 x5 : Value} (h : w.cell? ⟨g, i, none⟩ = some v) (hn : b ≠ g) : ((((((w.setCell ⟨b, 0, none⟩ x0).setCell ⟨b, 1, none⟩ x1).setCell ⟨b, 2, none⟩ x2).setCell ⟨b, 3, none⟩ x3).setCell ⟨b, 4, none⟩ x4).setCell ⟨b, 5, none⟩ x5).cell? ⟨g, i, none⟩ = some v := by
 rw [World.cell?_setCell_other _ _ _ _ (fun e => hn (by injection e)), World.cell?_setCell_other _ _ _ _ (fun e => hn (by injection e)), World.cell?_setCell_other _ _ _ _ (fun e => hn (by injection e)), World.cell?_setCell_other _ _ _ _ (fun e => hn (by injection e)), World.cell?_setCell_other _ _ _ _ (fun e => hn (by injection e)), World.cell?_setCell_other _ _ _ _ (fun e => hn (by injection e))]
 exact h
structure Pq where
 x : Int
 b : Int
 s : Bool
 l : List Nat
def GivenP (w : World) (g : Nat) (ps : List Pq) : Prop :=
 ∀ j (h : j < ps.length), ∃ A c, w.cell? ⟨g, j * 3, none⟩ = some (.int .i64 ps[j].b) ∧ w.cell? ⟨g, j * 3 + 1, none⟩ = some (.bool ps[j].s) ∧ w.cell? ⟨g, j * 3 + 2, none⟩ = some (.slice A ps[j].l.length c) ∧ Pl ps[j].x ps[j].b ps[j].s ps[j].l ∧ U64s w old A c ps[j].l ∧ ps[j].l.length ≤ 9000
theorem GivenP.below {ps : List Pq} (h : GivenP w g ps) (hb : Below w.heap.size w w') : GivenP w' g ps := fun j hj => by
 obtain ⟨A, c, h0, h1, h2, h3, h4, h5⟩ := h j hj
 exact ⟨A, c, keepC hb h0, keepC hb h1, keepC hb h2, h3, h4.below hb, h5⟩
theorem BoxL.of3 {b c : Value} (h : Box3 W g a b c) : BoxL W g [a, b, c] := by
 refine ⟨fun j v hv => ?_, fun j v hv => ?_, h.lt⟩ <;> rcases j with _ | _ | _ | j <;> simp at hv <;> subst hv
 · exact h.c0
 · exact h.c1
 · exact h.c2
 · exact h.f0
 · exact h.f1
 · exact h.f2
theorem BoxL.three {b c : Value} (h : BoxL W g [a, b, c]) : Box3 W g a b c :=
 ⟨h.c 0 _ rfl, h.c 1 _ rfl, h.c 2 _ rfl, h.f 0 _ rfl, h.f 1 _ rfl, h.f 2 _ rfl, h.lt⟩
theorem Box3.set3 {b c : Value} (h : Box3 W g a b c) (x y z : Value) : Box3 (((W.setCell ⟨g, 0, none⟩ x).setCell ⟨g, 1, none⟩ y).setCell ⟨g, 2, none⟩ z) g x y z :=
 BoxL.three ((((BoxL.of3 h).set 0 x rfl).set 1 y rfl).set 2 z rfl)
theorem Box3.oth3 {b c : Value} (h : Box3 W g a b c) (g' : Nat) (hn : g' ≠ g) (x y z : Value) : Box3 (((W.setCell ⟨g', 0, none⟩ x).setCell ⟨g', 1, none⟩ y).setCell ⟨g', 2, none⟩ z) g a b c :=
 BoxL.three ((((BoxL.of3 h).other g' 0 hn x).other g' 1 hn y).other g' 2 hn z)
theorem imin_p {n : Nat} {ps : List Pq} (h : GivenP w g ps) (hn : n = ps.length) (hl : ps.length ≤ 1000) (h1 : ∀ j (hj : j < ps.length), m ≤ ps[j].x) (h2 : ∃ j, ∃ (hj : j < ps.length), ps[j].x = m) :
  Calls Tryz.prog 120 #[.slice (some ⟨g, 0, none⟩) n c, .func (.func 57) #[] #[]] w fun e w' => ∃ b s l A d, e = .returned (.agg #[.int .i64 b, .bool s, .slice A l.length d]) ∧ Pl m b s l ∧ U64s w' old A d l ∧ l.length ≤ 9000 ∧ Below w.heap.size w w' := by
 subst hn
 have h0 : 0 < ps.length := by obtain ⟨j, hj, _⟩ := h2; omega
 obtain ⟨H1, H2⟩ := hid2 h1 h2
 obtain ⟨A0, d0, k0, k1, k2, P0, U0, L0⟩ := h 0 h0
 rw [Nat.zero_mul] at k0 k1 k2
 have hb0 : Below w.heap.size w (w.alloc (.cells #[.int .i64 0, .bool false, .slice none 0 0] 117)) := (Below.refl _ w).alloc (Nat.le_refl _) _
 obtain ⟨B0, Q0⟩ := hid2 (Box3.new w (.int .i64 0) (.bool false) (.slice none 0 0) 117) (Box3.new (w.alloc (.cells #[.int .i64 0, .bool false, .slice none 0 0] 117)) (.int .i64 ps[0].b) (.bool ps[0].s) (.slice A0 ps[0].l.length d0) 117)
 have k0' := k0
 have hd : decide ((ps.length : Int) < 1) = false := decide_eq_false (by omega)
 have e0 := keepC hb0 k0
 have e1 := keepC hb0 k1
 have e2 := keepC hb0 k2
 have HB := hid hb0
 have hsz : (w.alloc (.cells #[.int .i64 0, .bool false, .slice none 0 0] 117)).heap.size = w.heap.size + 1 := by simp
 obtain ⟨HP0, HU0⟩ := hid2 P0 U0
 clear h1 h2 hb0 P0 U0 k0 k1 k2
 go_enter Tryz.func120, Tryz.ntmps120
 go_wp2
 go_loopw [6] (fun i wr => ∃ k : Nat, 1 ≤ k ∧ k ≤ ps.length ∧ i = .int .i64 k ∧ Below w.heap.size w wr ∧ Hid (∃ r, ∃ (hr : r < ps.length), ∃ A d, Box3 wr (w.heap.size + 1) (.int .i64 ps[r].b) (.bool ps[r].s) (.slice A ps[r].l.length d) ∧ U64s w old A d ps[r].l ∧ ∀ j (hj : j < ps.length), j < k → ps[r].x ≤ ps[j].x) ∧ Hid (Box3 wr w.heap.size (.int .i64 0) (.bool false) (.slice none 0 0))) (fun i _ => ps.length - (intOf i).toNat)
 case atStart =>
  have hb1 : Below w.heap.size w ((w.alloc (.cells #[.int .i64 0, .bool false, .slice none 0 0] 117)).alloc (.cells #[.int .i64 ps[0].b, .bool ps[0].s, .slice A0 ps[0].l.length d0] 117)) := HB.out.alloc HB.out.size _
  refine ⟨1, by omega, by omega, rfl, hb1, hid ⟨0, h0, A0, d0, ?_, HU0.out.mono (le_old _), fun j hj h => ?_⟩, hid (B0.out.alloc _)⟩
  · have := Q0.out
    rw [hsz] at this
    exact this
  · obtain rfl : j = 0 := by omega
    exact Int.le_refl _
 case round =>
  obtain ⟨k, hk1, hk, rfl, hbel, hR, hZ⟩ := hrel
  by_cases hlt : k < ps.length
  · obtain ⟨r, hr, A, d, bx, ur, hall⟩ := hR.out
    obtain ⟨A', d', c0, c1, c2, Pk, uk, lk⟩ := h k hlt
    replace c0 := keepC hbel c0
    replace c1 := keepC hbel c1
    replace c2 := keepC hbel c2
    obtain ⟨_, _, _, _, _, Pr, _, lr⟩ := (h.below hbel) r hr
    obtain ⟨gg, hgg⟩ : ∃ gg, cmpP ps[k].b ps[r].b ps[k].x ps[r].x = gg := ⟨_, rfl⟩
    have hle := cmpP_le Pk Pr
    rw [hgg] at hle
    obtain ⟨Hcp, Huk, Hbx, Hur⟩ := hid4 (fun (W : World) (hb : Below wr.heap.size wr W) => icompare_p (w := W) Pk Pr (uk.below (from_ hbel hb)) (ur.below (from_ hbel hb)) (by omega) (by omega) hgg) uk bx ur
    have hw0 : w.heap.size + 1 < wr.heap.size := bx.lt
    obtain ⟨b0, b1, b2, bf0, bf1, bf2, _⟩ := bx
    have Hk0 := hid c0
    have hgl : g < w.heap.size := lt_of_cell k0'
    have hne : ¬ g = w.heap.size + 1 := by omega
    have hne2 : ¬ w.heap.size + 1 = g := by omega
    have hD := hid (show Below wr.heap.size wr wr.drew from (Below.refl _ wr).drew)
    have s0 := keepC hD.out c0
    have s1 := keepC hD.out c1
    have s2 := keepC hD.out c2
    have s3 := keepC hD.out b0
    have s4 := keepC hD.out b1
    have s5 := keepC hD.out b2
    have Hc0 := hid (And.intro c0 (And.intro c1 c2))
    by_cases hc : gg < 0
    · have hd : decide (gg < 0) = true := decide_eq_true hc
      have Hnew := hid (show ∀ j (hj : j < ps.length), j < k + 1 → ps[k].x ≤ ps[j].x from fun j hj hjk => by
       rcases Nat.lt_or_ge j k with h' | h'
       · have := hall j hj h'; omega
       · obtain rfl : j = k := by omega
         exact Int.le_refl _)
      clear hall hle hgg Pk Pr uk ur lk lr hc hR c0 c1 c2 b0 b1 b2
      have Hq : Hid (ps[k] = ps[k]) := rfl
      go_wp2
      go_region_held3 (fun w' => w'.cell? ⟨g, k * 3, none⟩ = some (.int .i64 ps[k].b) ∧ w'.cell? ⟨g, k * 3 + 1, none⟩ = some (.bool ps[k].s) ∧ w'.cell? ⟨g, k * 3 + 2, none⟩ = some (.slice A' ps[k].l.length d') ∧ C3 w' (w.heap.size + 1) (.int .i64 ps[r].b) (.bool ps[r].s) (.slice A ps[r].l.length d))
       (first
        | (go_keep; done)
        | exact ⟨s0, s1, s2, s3, s4, s5⟩
        | exact ⟨t0, t1, t2, t3, t4, t5⟩)
       (first
        | (go_at_call 57; with_reducible refine (Hcp.out _ hD.out).mono ?_; rintro e w1 ⟨rfl, hc⟩; have t0 := keepC hc s0; have t1 := keepC hc s1; have t2 := keepC hc s2; have t3 := keepC hc s3; have t4 := keepC hc s4; have t5 := keepC hc s5))
      all_goals
       have hb1 := hid (hD.out.trans (hc.mono hD.out.size))
       have B1 := Hbx.out.below hb1.out
       obtain ⟨HB3, HZ3, HP⟩ := hid3 (B1.set3 (.int .i64 ps[k].b) (.bool ps[k].s) (.slice A' ps[k].l.length d')) ((hZ.out.below hb1.out).oth3 (w.heap.size + 1) (by omega) (.int .i64 ps[k].b) (.bool ps[k].s) (.slice A' ps[k].l.length d')) (B1.put (from_ hbel hb1.out) (by omega) (.int .i64 ps[k].b) (.bool ps[k].s) (.slice A' ps[k].l.length d'))
       obtain ⟨_, _, _, wf0, wf1, wf2, _⟩ := B1
       go_wp2
       go_roundw
       case rel => exact ⟨k + 1, by omega, by omega, by go_num, HP.out.bel, hid ⟨k, hlt, A', d', HB3.out, Huk.out, Hnew.out⟩, HZ3⟩
       case measure => simp [intOf]; omega
    · have hd : decide (gg < 0) = false := decide_eq_false hc
      have Hnew := hid (show ∀ j (hj : j < ps.length), j < k + 1 → ps[r].x ≤ ps[j].x from fun j hj hjk => by
       rcases Nat.lt_or_ge j k with h' | h'
       · exact hall j hj h'
       · obtain rfl : j = k := by omega
         omega)
      clear hall hle hgg Pk Pr uk ur lk lr hc hR c0 c1 c2 b0 b1 b2
      have Hq : Hid (ps[k] = ps[k]) := rfl
      go_wp2
      go_region_held3 (fun w' => w'.cell? ⟨g, k * 3, none⟩ = some (.int .i64 ps[k].b) ∧ w'.cell? ⟨g, k * 3 + 1, none⟩ = some (.bool ps[k].s) ∧ w'.cell? ⟨g, k * 3 + 2, none⟩ = some (.slice A' ps[k].l.length d') ∧ C3 w' (w.heap.size + 1) (.int .i64 ps[r].b) (.bool ps[r].s) (.slice A ps[r].l.length d))
       (first
        | (go_keep; done)
        | exact ⟨s0, s1, s2, s3, s4, s5⟩
        | exact ⟨t0, t1, t2, t3, t4, t5⟩)
       (first
        | (go_at_call 57; with_reducible refine (Hcp.out _ hD.out).mono ?_; rintro e w1 ⟨rfl, hc⟩; have t0 := keepC hc s0; have t1 := keepC hc s1; have t2 := keepC hc s2; have t3 := keepC hc s3; have t4 := keepC hc s4; have t5 := keepC hc s5))
      all_goals
       have hb1 := hid (hD.out.trans (hc.mono hD.out.size))
       go_wp2
       go_roundw
       case rel => exact ⟨k + 1, by omega, by omega, by go_num, from_ hbel hb1.out, hid ⟨r, hr, A, d, Hbx.out.below hb1.out, Hur.out, Hnew.out⟩, hid (hZ.out.below hb1.out)⟩
       case measure => simp [intOf]; omega
  · obtain rfl : k = ps.length := by omega
    obtain ⟨r, hr, A, d, bx, ur, hall⟩ := hR.out
    obtain ⟨_, _, _, _, _, Pr, _, lr⟩ := (h.below hbel) r hr
    have hm : ps[r].x = m := by
     obtain ⟨j, hj, e⟩ := H2.out
     have e1 := hall j hj hj
     have e2 := H1.out r hr
     omega
    obtain ⟨HPr, Hlr, Hur, Hbx, HP⟩ := hid5 (hm ▸ Pr) lr ur bx (hZ.out.put hbel (Nat.le_refl _) (.int .i64 ps[r].b) (.bool ps[r].s) (.slice A ps[r].l.length d))
    obtain ⟨b0, b1, b2, bf0, bf1, bf2, _⟩ := bx
    obtain ⟨z0, z1, z2, zf0, zf1, zf2, _⟩ := hZ.out
    clear hall hm Pr lr ur
    go_wp2
    refine bodyPost_ret (res_place rfl _ w.heap.size rfl HP.out.c0 HP.out.c1 HP.out.c2) rfl ?_
    exact ⟨_, _, _, _, _, rfl, HPr.out, Hur.out.below HP.out.bel, Hlr.out, HP.out.bel⟩
theorem imax_p {n : Nat} {ps : List Pq} (h : GivenP w g ps) (hn : n = ps.length) (hl : ps.length ≤ 1000) (h1 : ∀ j (hj : j < ps.length), ps[j].x ≤ m) (h2 : ∃ j, ∃ (hj : j < ps.length), ps[j].x = m) :
  Calls Tryz.prog 121 #[.slice (some ⟨g, 0, none⟩) n c, .func (.func 57) #[] #[]] w fun e w' => ∃ b s l A d, e = .returned (.agg #[.int .i64 b, .bool s, .slice A l.length d]) ∧ Pl m b s l ∧ U64s w' old A d l ∧ l.length ≤ 9000 ∧ Below w.heap.size w w' := by
 subst hn
 have h0 : 0 < ps.length := by obtain ⟨j, hj, _⟩ := h2; omega
 obtain ⟨H1, H2⟩ := hid2 h1 h2
 obtain ⟨A0, d0, k0, k1, k2, P0, U0, L0⟩ := h 0 h0
 rw [Nat.zero_mul] at k0 k1 k2
 have hb0 : Below w.heap.size w (w.alloc (.cells #[.int .i64 0, .bool false, .slice none 0 0] 117)) := (Below.refl _ w).alloc (Nat.le_refl _) _
 obtain ⟨B0, Q0⟩ := hid2 (Box3.new w (.int .i64 0) (.bool false) (.slice none 0 0) 117) (Box3.new (w.alloc (.cells #[.int .i64 0, .bool false, .slice none 0 0] 117)) (.int .i64 ps[0].b) (.bool ps[0].s) (.slice A0 ps[0].l.length d0) 117)
 have k0' := k0
 have hd : decide ((ps.length : Int) < 1) = false := decide_eq_false (by omega)
 have e0 := keepC hb0 k0
 have e1 := keepC hb0 k1
 have e2 := keepC hb0 k2
 have HB := hid hb0
 have hsz : (w.alloc (.cells #[.int .i64 0, .bool false, .slice none 0 0] 117)).heap.size = w.heap.size + 1 := by simp
 obtain ⟨HP0, HU0⟩ := hid2 P0 U0
 clear h1 h2 hb0 P0 U0 k0 k1 k2
 go_enter Tryz.func121, Tryz.ntmps121
 go_wp2
 go_loopw [6] (fun i wr => ∃ k : Nat, 1 ≤ k ∧ k ≤ ps.length ∧ i = .int .i64 k ∧ Below w.heap.size w wr ∧ Hid (∃ r, ∃ (hr : r < ps.length), ∃ A d, Box3 wr (w.heap.size + 1) (.int .i64 ps[r].b) (.bool ps[r].s) (.slice A ps[r].l.length d) ∧ U64s w old A d ps[r].l ∧ ∀ j (hj : j < ps.length), j < k → ps[j].x ≤ ps[r].x) ∧ Hid (Box3 wr w.heap.size (.int .i64 0) (.bool false) (.slice none 0 0))) (fun i _ => ps.length - (intOf i).toNat)
 case atStart =>
  have hb1 : Below w.heap.size w ((w.alloc (.cells #[.int .i64 0, .bool false, .slice none 0 0] 117)).alloc (.cells #[.int .i64 ps[0].b, .bool ps[0].s, .slice A0 ps[0].l.length d0] 117)) := HB.out.alloc HB.out.size _
  refine ⟨1, by omega, by omega, rfl, hb1, hid ⟨0, h0, A0, d0, ?_, HU0.out.mono (le_old _), fun j hj h => ?_⟩, hid (B0.out.alloc _)⟩
  · have := Q0.out
    rw [hsz] at this
    exact this
  · obtain rfl : j = 0 := by omega
    exact Int.le_refl _
 case round =>
  obtain ⟨k, hk1, hk, rfl, hbel, hR, hZ⟩ := hrel
  by_cases hlt : k < ps.length
  · obtain ⟨r, hr, A, d, bx, ur, hall⟩ := hR.out
    obtain ⟨A', d', c0, c1, c2, Pk, uk, lk⟩ := h k hlt
    replace c0 := keepC hbel c0
    replace c1 := keepC hbel c1
    replace c2 := keepC hbel c2
    obtain ⟨_, _, _, _, _, Pr, _, lr⟩ := (h.below hbel) r hr
    obtain ⟨gg, hgg⟩ : ∃ gg, cmpP ps[k].b ps[r].b ps[k].x ps[r].x = gg := ⟨_, rfl⟩
    have hle := cmpP_le Pk Pr
    rw [hgg] at hle
    obtain ⟨Hcp, Huk, Hbx, Hur⟩ := hid4 (fun (W : World) (hb : Below wr.heap.size wr W) => icompare_p (w := W) Pk Pr (uk.below (from_ hbel hb)) (ur.below (from_ hbel hb)) (by omega) (by omega) hgg) uk bx ur
    have hw0 : w.heap.size + 1 < wr.heap.size := bx.lt
    obtain ⟨b0, b1, b2, bf0, bf1, bf2, _⟩ := bx
    have Hk0 := hid c0
    have hgl : g < w.heap.size := lt_of_cell k0'
    have hne : ¬ g = w.heap.size + 1 := by omega
    have hne2 : ¬ w.heap.size + 1 = g := by omega
    have hD := hid (show Below wr.heap.size wr wr.drew from (Below.refl _ wr).drew)
    have s0 := keepC hD.out c0
    have s1 := keepC hD.out c1
    have s2 := keepC hD.out c2
    have s3 := keepC hD.out b0
    have s4 := keepC hD.out b1
    have s5 := keepC hD.out b2
    have Hc0 := hid (And.intro c0 (And.intro c1 c2))
    by_cases hc : 0 < gg
    · have hd : decide (0 < gg) = true := decide_eq_true hc
      have Hnew := hid (show ∀ j (hj : j < ps.length), j < k + 1 → ps[j].x ≤ ps[k].x from fun j hj hjk => by
       rcases Nat.lt_or_ge j k with h' | h'
       · have := hall j hj h'; omega
       · obtain rfl : j = k := by omega
         exact Int.le_refl _)
      clear hall hle hgg Pk Pr uk ur lk lr hc hR c0 c1 c2 b0 b1 b2
      have Hq : Hid (ps[k] = ps[k]) := rfl
      go_wp2
      go_region_held3 (fun w' => w'.cell? ⟨g, k * 3, none⟩ = some (.int .i64 ps[k].b) ∧ w'.cell? ⟨g, k * 3 + 1, none⟩ = some (.bool ps[k].s) ∧ w'.cell? ⟨g, k * 3 + 2, none⟩ = some (.slice A' ps[k].l.length d') ∧ C3 w' (w.heap.size + 1) (.int .i64 ps[r].b) (.bool ps[r].s) (.slice A ps[r].l.length d))
       (first
        | (go_keep; done)
        | exact ⟨s0, s1, s2, s3, s4, s5⟩
        | exact ⟨t0, t1, t2, t3, t4, t5⟩)
       (first
        | (go_at_call 57; with_reducible refine (Hcp.out _ hD.out).mono ?_; rintro e w1 ⟨rfl, hc⟩; have t0 := keepC hc s0; have t1 := keepC hc s1; have t2 := keepC hc s2; have t3 := keepC hc s3; have t4 := keepC hc s4; have t5 := keepC hc s5))
      all_goals
       have hb1 := hid (hD.out.trans (hc.mono hD.out.size))
       have B1 := Hbx.out.below hb1.out
       obtain ⟨HB3, HZ3, HP⟩ := hid3 (B1.set3 (.int .i64 ps[k].b) (.bool ps[k].s) (.slice A' ps[k].l.length d')) ((hZ.out.below hb1.out).oth3 (w.heap.size + 1) (by omega) (.int .i64 ps[k].b) (.bool ps[k].s) (.slice A' ps[k].l.length d')) (B1.put (from_ hbel hb1.out) (by omega) (.int .i64 ps[k].b) (.bool ps[k].s) (.slice A' ps[k].l.length d'))
       obtain ⟨_, _, _, wf0, wf1, wf2, _⟩ := B1
       go_wp2
       go_roundw
       case rel => exact ⟨k + 1, by omega, by omega, by go_num, HP.out.bel, hid ⟨k, hlt, A', d', HB3.out, Huk.out, Hnew.out⟩, HZ3⟩
       case measure => simp [intOf]; omega
    · have hd : decide (0 < gg) = false := decide_eq_false hc
      have Hnew := hid (show ∀ j (hj : j < ps.length), j < k + 1 → ps[j].x ≤ ps[r].x from fun j hj hjk => by
       rcases Nat.lt_or_ge j k with h' | h'
       · exact hall j hj h'
       · obtain rfl : j = k := by omega
         omega)
      clear hall hle hgg Pk Pr uk ur lk lr hc hR c0 c1 c2 b0 b1 b2
      have Hq : Hid (ps[k] = ps[k]) := rfl
      go_wp2
      go_region_held3 (fun w' => w'.cell? ⟨g, k * 3, none⟩ = some (.int .i64 ps[k].b) ∧ w'.cell? ⟨g, k * 3 + 1, none⟩ = some (.bool ps[k].s) ∧ w'.cell? ⟨g, k * 3 + 2, none⟩ = some (.slice A' ps[k].l.length d') ∧ C3 w' (w.heap.size + 1) (.int .i64 ps[r].b) (.bool ps[r].s) (.slice A ps[r].l.length d))
       (first
        | (go_keep; done)
        | exact ⟨s0, s1, s2, s3, s4, s5⟩
        | exact ⟨t0, t1, t2, t3, t4, t5⟩)
       (first
        | (go_at_call 57; with_reducible refine (Hcp.out _ hD.out).mono ?_; rintro e w1 ⟨rfl, hc⟩; have t0 := keepC hc s0; have t1 := keepC hc s1; have t2 := keepC hc s2; have t3 := keepC hc s3; have t4 := keepC hc s4; have t5 := keepC hc s5))
      all_goals
       have hb1 := hid (hD.out.trans (hc.mono hD.out.size))
       go_wp2
       go_roundw
       case rel => exact ⟨k + 1, by omega, by omega, by go_num, from_ hbel hb1.out, hid ⟨r, hr, A, d, Hbx.out.below hb1.out, Hur.out, Hnew.out⟩, hid (hZ.out.below hb1.out)⟩
       case measure => simp [intOf]; omega
  · obtain rfl : k = ps.length := by omega
    obtain ⟨r, hr, A, d, bx, ur, hall⟩ := hR.out
    obtain ⟨_, _, _, _, _, Pr, _, lr⟩ := (h.below hbel) r hr
    have hm : ps[r].x = m := by
     obtain ⟨j, hj, e⟩ := H2.out
     have e1 := hall j hj hj
     have e2 := H1.out r hr
     omega
    obtain ⟨HPr, Hlr, Hur, Hbx, HP⟩ := hid5 (hm ▸ Pr) lr ur bx (hZ.out.put hbel (Nat.le_refl _) (.int .i64 ps[r].b) (.bool ps[r].s) (.slice A ps[r].l.length d))
    obtain ⟨b0, b1, b2, bf0, bf1, bf2, _⟩ := bx
    obtain ⟨z0, z1, z2, zf0, zf1, zf2, _⟩ := hZ.out
    clear hall hm Pr lr ur
    go_wp2
    refine bodyPost_ret (res_place rfl _ w.heap.size rfl HP.out.c0 HP.out.c1 HP.out.c2) rfl ?_
    exact ⟨_, _, _, _, _, rfl, HPr.out, Hur.out.below HP.out.bel, Hlr.out, HP.out.bel⟩
theorem icorners_p {n : Nat} {ps : List Pq} (h : GivenP w g ps) (hn : n = ps.length) (hl : ps.length ≤ 1000) (h1 : ∀ j (hj : j < ps.length), m ≤ ps[j].x) (h2 : ∃ j, ∃ (hj : j < ps.length), ps[j].x = m) (h3 : ∀ j (hj : j < ps.length), ps[j].x ≤ M) (h4 : ∃ j, ∃ (hj : j < ps.length), ps[j].x = M)
  (gm : m < bigZ) (gM : -bigZ < M) (e0 : n0 = nLo m ∧ s0 = sE m ∧ l0 = lE m) (e1 : n1 = nHi M ∧ s1 = sE M ∧ l1 = lE M) :
  Calls Tryz.prog 100 #[.slice (some ⟨g, 0, none⟩) n c] w fun e w' => ∃ A1 c1 A2 c2, e = .returned (.agg #[.bool n0, .bool s0, .slice A1 l0.length c1, .bool n1, .bool s1, .slice A2 l1.length c2]) ∧ U64s w' (new w.heap.size) A1 c1 l0 ∧ U64s w' (new w.heap.size) A2 c2 l1 ∧ Below w.heap.size w w' := by
 have hb0 : Below w.heap.size w (w.alloc (.cells #[.bool false, .bool false, .slice none 0 0, .bool false, .bool false, .slice none 0 0] 29)) := (Below.refl _ w).alloc (Nat.le_refl _) _
 obtain ⟨HB, hB, MI, HH, H3, H4⟩ := hid6 hb0 (Box6.new w (.bool false) (.bool false) (.slice none 0 0) (.bool false) (.bool false) (.slice none 0 0) 29) (imin_p (c := c) (h.below hb0) hn hl h1 h2) h h3 h4
 obtain ⟨Hn, E1⟩ := hid2 hn e1
 clear h h1 h2 h3 h4 hb0 hn e1
 go_enter Tryz.func100, Tryz.ntmps100
 go_wp2_with fail
 refine MI.out.mono ?_
 rintro e w1 ⟨b, s, l, A, d, rfl, P, u, ln, hc1⟩
 have hs' := P.uniq.2.1
 have hl' := P.uniq.2.2
 have hb' := (P.nlo gm).trans e0.1.symm
 obtain rfl : s = s0 := hs'.trans e0.2.1.symm
 obtain rfl : l = l0 := hl'.trans e0.2.2.symm
 obtain ⟨H1, B1, C1⟩ := hid3 (from_ HB.out hc1) (hB.out.below hc1) (ibound_p P hb' u (by omega))
 clear P u hs' hl' hb' e0
 go_wp2_with fail
 refine C1.out.mono ?_
 rintro e w2 ⟨A1, c1, rfl, u1, hc2⟩
 obtain ⟨H2, B2, Hu1⟩ := hid3 (from_ H1.out hc2) (B1.out.below hc2) u1
 have MA := hid (imax_p (c := c) (HH.out.below H2.out) Hn.out hl H3.out H4.out)
 clear u1
 go_wp2_with fail
 refine MA.out.mono ?_
 rintro e w3 ⟨b', t, k, A', d', rfl, P, u, ln', hc3⟩
 have hs' := P.uniq.2.1
 have hl' := P.uniq.2.2
 have hb' := (P.nhi gM).trans E1.out.1.symm
 obtain rfl : t = s1 := hs'.trans E1.out.2.1.symm
 obtain rfl : k = l1 := hl'.trans E1.out.2.2.symm
 obtain ⟨H3', B3, C2, Hu2⟩ := hid4 (from_ H2.out hc3) (B2.out.below hc3) (ibound_p P hb' u (by omega)) (Hu1.out.below hc3)
 clear P u hs' hl' hb' E1
 go_wp2_with fail
 refine C2.out.mono ?_
 rintro e w4 ⟨A2, c2, rfl, u2, hc4⟩
 have B4 := B3.out.below hc4
 have z1 := B1.out.lt
 have z3 := B3.out.lt
 obtain ⟨HP, U1, U2⟩ := hid3 (B4.put (from_ H3'.out hc4) (Nat.le_refl _) (.bool n0) (.bool s) (.slice A1 l.length c1) (.bool n1) (.bool t) (.slice A2 k.length c2)) (((Hu2.out.below hc4).set6 (g := w.heap.size) (fun (h : w1.heap.size ≤ w.heap.size) => by omega) (.bool n0) (.bool s) (.slice A1 l.length c1) (.bool n1) (.bool t) (.slice A2 k.length c2)).mono (new_le (Nat.le_of_lt z1))) ((u2.set6 (g := w.heap.size) (fun (h : w3.heap.size ≤ w.heap.size) => by omega) (.bool n0) (.bool s) (.slice A1 l.length c1) (.bool n1) (.bool t) (.slice A2 k.length c2)).mono (new_le (Nat.le_of_lt z3)))
 have q0 := B4.cf
 clear u2 hc1 hc2 hc3 hc4 z1 z3
 go_wp2
 refine bodyPost_ret (res_itv rfl _ w.heap.size rfl HP.out.box) rfl ?_
 exact ⟨_, _, _, _, rfl, U1.out, U2.out, HP.out.bel⟩
structure IvsAt (w : World) (Z : Zone) (A : Option Addr) (c : Nat) (ps : List Iv) : Prop where
 cap : ps.length ≤ c
 max : c ≤ 9223372036854775807
 row : 0 < ps.length → ∃ b o, A = some ⟨b, o, none⟩ ∧ b < w.heap.size ∧
  ∀ j (hj : j < ps.length), ∃ A0 d0 A1 d1, (w.cell? ⟨b, o + j * 6, none⟩ = some (.bool ps[j].n0) ∧ w.cell? ⟨b, o + j * 6 + 1, none⟩ = some (.bool ps[j].s0) ∧ w.cell? ⟨b, o + j * 6 + 2, none⟩ = some (.slice A0 ps[j].l0.length d0) ∧ w.cell? ⟨b, o + j * 6 + 3, none⟩ = some (.bool ps[j].n1) ∧ w.cell? ⟨b, o + j * 6 + 4, none⟩ = some (.bool ps[j].s1) ∧ w.cell? ⟨b, o + j * 6 + 5, none⟩ = some (.slice A1 ps[j].l1.length d1)) ∧ U64s w Z A0 d0 ps[j].l0 ∧ U64s w Z A1 d1 ps[j].l1
theorem IvsAt.nil (w : World) (Z : Zone) : IvsAt w Z none 0 [] := ⟨by simp, by omega, fun h => absurd h (by simp)⟩
theorem IvsAt.below {ps : List Iv} (h : IvsAt w Z A c ps) (hb : Below w.heap.size w w') : IvsAt w' Z A c ps := by
 refine ⟨h.cap, h.max, fun h0 => ?_⟩
 obtain ⟨b, o, e, h2, h4⟩ := h.row h0
 refine ⟨b, o, e, Nat.lt_of_lt_of_le h2 hb.size, fun j hj => ?_⟩
 obtain ⟨A0, d0, A1, d1, ⟨c0, c1, c2, c3, c4, c5⟩, u0, u1⟩ := h4 j hj
 exact ⟨A0, d0, A1, d1, ⟨keepC hb c0, keepC hb c1, keepC hb c2, keepC hb c3, keepC hb c4, keepC hb c5⟩, u0.below hb, u1.below hb⟩
theorem IvsAt.mono {ps : List Iv} (h : IvsAt w Z A c ps) (hz : Z.le Y) : IvsAt w Y A c ps := by
 refine ⟨h.cap, h.max, fun h0 => ?_⟩
 obtain ⟨b, o, e, h2, h4⟩ := h.row h0
 refine ⟨b, o, e, h2, fun j hj => ?_⟩
 obtain ⟨A0, d0, A1, d1, hc, u0, u1⟩ := h4 j hj
 exact ⟨A0, d0, A1, d1, hc, u0.mono hz, u1.mono hz⟩
theorem IvsAt.len {ps : List Iv} (h : IvsAt w Z A c ps) : ps.length ≤ 9223372036854775807 := Nat.le_trans h.cap h.max
theorem IvsAt.at {ps : List Iv} (h : IvsAt w Z A c ps) (hj : j < ps.length) :
  ∃ b o A0 d0 A1 d1, A = some ⟨b, o, none⟩ ∧ b < w.heap.size ∧ (w.cell? ⟨b, o + j * 6, none⟩ = some (.bool ps[j].n0) ∧ w.cell? ⟨b, o + j * 6 + 1, none⟩ = some (.bool ps[j].s0) ∧ w.cell? ⟨b, o + j * 6 + 2, none⟩ = some (.slice A0 ps[j].l0.length d0) ∧ w.cell? ⟨b, o + j * 6 + 3, none⟩ = some (.bool ps[j].n1) ∧ w.cell? ⟨b, o + j * 6 + 4, none⟩ = some (.bool ps[j].s1) ∧ w.cell? ⟨b, o + j * 6 + 5, none⟩ = some (.slice A1 ps[j].l1.length d1)) ∧ U64s w Z A0 d0 ps[j].l0 ∧ U64s w Z A1 d1 ps[j].l1 := by
 obtain ⟨b, o, e, h2, h4⟩ := h.row (by omega)
 obtain ⟨A0, d0, A1, d1, h⟩ := h4 j hj
 exact ⟨b, o, A0, d0, A1, d1, e, h2, h⟩
theorem IvsAt.small {ps : List Iv} (h : IvsAt w Z A c ps) : ∀ p ∈ ps, Small p.l0 ∧ Small p.l1 := fun p hp => by
 obtain ⟨j, hj, rfl⟩ := List.getElem_of_mem hp
 obtain ⟨_, _, _, _, _, _, _, _, _, u0, u1⟩ := h.at hj
 exact ⟨u0.small, u1.small⟩
theorem ok_err {p : Iv} : errA p.n0 p.s0 p.l0 p.n1 p.s1 p.l1 = if p.ok = true then 0 else 8 := rfl
theorem lodd_any {p : Iv} {A0 A1 : Option Addr} {d0 d1 : Nat} (u0 : U64s w Z A0 d0 p.l0) (u1 : U64s w Y A1 d1 p.l1) (hs : p.short) :
  Calls Tryz.prog 88 #[.agg #[.bool p.n0, .bool p.s0, .slice A0 p.l0.length d0, .bool p.n1, .bool p.s1, .slice A1 p.l1.length d1]] w fun e w' => e = .returned (.bool (!p.ok)) ∧ Below w.heap.size w w' := by
 have hB0 : Below w.heap.size w (w.alloc (.cells #[.bool p.n0, .bool p.s0, .slice A0 p.l0.length d0, .bool p.n1, .bool p.s1, .slice A1 p.l1.length d1] 29)) := (Below.refl _ _).alloc (Nat.le_refl _) _
 obtain ⟨a0, a1, a2, a3, a4, a5, _, _, _, _, _, _, _⟩ := Box6.new w (.bool p.n0) (.bool p.s0) (.slice A0 p.l0.length d0) (.bool p.n1) (.bool p.s1) (.slice A1 p.l1.length d1) 29
 have hck := icheck_any (n0 := p.n0) (s0 := p.s0) (n1 := p.n1) (s1 := p.s1) (u0.below hB0) (u1.below hB0) hs.1 hs.2
 rw [ok_err] at hck
 have HB := hid hB0
 have hok : p.ok = true ∨ p.ok = false := by cases p.ok <;> simp
 have hl0 := u0.len
 have hl1 := u1.len
 clear u0 u1 hs hB0
 generalize p.l0.length = L0 at *
 generalize p.l1.length = L1 at *
 rcases hok with hok | hok
 all_goals
  rw [hok] at hck ⊢
  have Hck := hid hck
  clear hck hok
  go_enter Tryz.func88, Tryz.ntmps88
  go_wp2_with fail
  refine Hck.out.mono ?_
  rintro e w1 ⟨rfl, hc⟩
  have hB1 := from_ HB.out hc
  go_wp2
  go_ret
  exact ⟨by first | rfl | trivial, hB1⟩
theorem lindex_form {ps : List Iv} (ha : IvsAt w Z A c ps) (hs : ∀ p ∈ ps, p.short) :
  Calls Tryz.prog 105 #[.slice A ps.length c, .func (.func 88) #[] #[]] w fun e w' => (∃ r, e = .returned (.int .i64 r) ∧ decide (0 ≤ r) = !(ps.all Iv.ok)) ∧ Below w.heap.size w w' := by
 have hlen := ha.len
 go_enter Tryz.func105, Tryz.ntmps105
 go_wp2
 go_loopw [8] (fun i wr => ∃ k : Nat, k ≤ ps.length ∧ i = .int .i64 k ∧ Below w.heap.size w wr ∧ Hid (∀ j (hj : j < ps.length), j < k → ps[j].ok = true)) (fun i _ => ps.length - (intOf i).toNat)
 case atStart => exact ⟨0, Nat.zero_le _, rfl, Below.refl _ _, fun j hj h => absurd h (by omega)⟩
 case round =>
  obtain ⟨k, hk, rfl, hbel, hz⟩ := hrel
  by_cases hlt : k < ps.length
  · obtain ⟨b, o, A0, d0, A1, d1, rfl, hbb, ⟨c0, c1, c2, c3, c4, c5⟩, u0, u1⟩ := (ha.below hbel).at hlt
    have hck := lodd_any u0 u1 (hs _ (List.getElem_mem hlt))
    have hok : ps[k].ok = true ∨ ps[k].ok = false := by cases ps[k].ok <;> simp
    have Hall : Hid (ps[k].ok = true → ∀ j (hj : j < ps.length), j < k + 1 → ps[j].ok = true) := fun hx j hj hjk => by
     rcases Nat.lt_or_ge j k with h1 | h1
     · exact hz.out j hj h1
     · obtain rfl : j = k := by omega
       exact hx
    have Hnone : Hid (ps[k].ok = false → ps.all Iv.ok = false) := fun hx => by
     cases hall : ps.all Iv.ok
     · rfl
     · have := List.all_eq_true.1 hall ps[k] (List.getElem_mem hlt)
       rw [this] at hx
       cases hx
    clear u0 u1 hz
    generalize ps[k] = p at *
    rcases hok with hok | hok
    all_goals
     rw [hok] at hck
     obtain ⟨Hck, Hok⟩ := hid2 hck hok
     clear hck hok
     go_wp2_with fail
     refine Hck.out.mono ?_
     rintro e w1 ⟨rfl, hb2⟩
     have hb3 := from_ hbel hb2
     go_wp2
    · go_roundw
      case rel => exact ⟨k + 1, by omega, by go_num, hb3, hid (Hall.out Hok.out)⟩
      case measure => simp [intOf]; omega
    · go_ret
      exact ⟨⟨_, rfl, by rw [Hnone.out Hok.out]; exact decide_eq_true (by omega)⟩, hb3⟩
  · obtain rfl : k = ps.length := by omega
    have he : ps.all Iv.ok = true := by
     rw [List.all_eq_true]
     intro p hp
     obtain ⟨j, hj, rfl⟩ := List.getElem_of_mem hp
     exact hz.out j hj hj
    have He := hid he
    clear he hz
    go_wp2
    go_ret
    exact ⟨⟨_, rfl, by rw [He.out]; rfl⟩, hbel⟩
theorem lcontains_form {ps : List Iv} (ha : IvsAt w Z A c ps) (hs : ∀ p ∈ ps, p.short) :
  Calls Tryz.prog 76 #[.slice A ps.length c, .func (.func 88) #[] #[]] w fun e w' => e = .returned (.bool (!(ps.all Iv.ok))) ∧ Below w.heap.size w w' := by
 have Hix := hid (lindex_form ha hs)
 have hlen := ha.len
 clear ha hs
 generalize ps.length = L at *
 generalize (ps.all Iv.ok) = R at *
 go_enter Tryz.func76, Tryz.ntmps76
 go_wp2_with fail
 refine Hix.out.mono ?_
 rintro e w1 ⟨⟨r, rfl, hr⟩, hb1⟩
 go_wp2
 go_ret
 exact ⟨rfl, hb1⟩
def errF (ps : List Iv) : Int := if (1 ≤ ps.length ∧ ps.length ≤ 64) ∧ ps.all Iv.ok = true then 0 else 8
theorem lcheck_any {ps : List Iv} (ha : IvsAt w Z A c ps) (hs : ∀ p ∈ ps, p.short) :
  Calls Tryz.prog 103 #[.slice A ps.length c] w fun e w' => e = .returned (.int .i64 (errF ps)) ∧ Below w.heap.size w w' := by
 have hc := lcontains_form ha hs
 have hlen := ha.len
 by_cases h1 : ps.length < 1
 · have e : errF ps = 8 := by unfold errF; rw [if_neg (by omega)]
   rw [e]
   have t1 : decide ((ps.length : Int) < 1) = true := decide_eq_true (by omega)
   have t2 : ps.length = 0 := by omega
   rw [t2] at t1 ⊢
   clear hc ha hs e h1 hlen t2
   go_enter Tryz.func103, Tryz.ntmps103
   go_wp2
   go_ret
   exact ⟨rfl, Below.refl _ _⟩
 · have t1 : decide ((ps.length : Int) < 1) = false := decide_eq_false (by omega)
   by_cases h2 : 64 < ps.length
   · have e : errF ps = 8 := by unfold errF; rw [if_neg (by omega)]
     rw [e]
     have t2 : decide ((64 : Int) < (ps.length : Int)) = true := decide_eq_true (by omega)
     have t3 : decide (64 < ps.length) = true := decide_eq_true h2
     clear hc ha hs e
     generalize ps.length = L at *
     go_enter Tryz.func103, Tryz.ntmps103
     go_wp2
     go_ret
     exact ⟨rfl, Below.refl _ _⟩
   · have t2 : decide ((64 : Int) < (ps.length : Int)) = false := decide_eq_false (by omega)
     have t3 : decide (64 < ps.length) = false := decide_eq_false h2
     have hok : ps.all Iv.ok = true ∨ ps.all Iv.ok = false := by cases ps.all Iv.ok <;> simp
     rcases hok with hok | hok
     · have e : errF ps = 0 := by unfold errF; rw [if_pos ⟨by omega, hok⟩]
       rw [e]
       rw [hok] at hc
       have Hc := hid hc
       clear hc ha hs e hok
       generalize ps.length = L at *
       go_enter Tryz.func103, Tryz.ntmps103
       go_wp2_with fail
       refine Hc.out.mono ?_
       rintro e w1 ⟨rfl, hb⟩
       go_wp2
       go_ret
       exact ⟨rfl, hb⟩
     · have e : errF ps = 8 := by unfold errF; rw [if_neg (by rw [hok]; simp)]
       rw [e]
       rw [hok] at hc
       have Hc := hid hc
       clear hc ha hs e hok
       generalize ps.length = L at *
       go_enter Tryz.func103, Tryz.ntmps103
       go_wp2_with fail
       refine Hc.out.mono ?_
       rintro e w1 ⟨rfl, hb⟩
       go_wp2
       go_ret
       exact ⟨rfl, hb⟩
theorem Nm.enc {l : List Nat} (h : Nm x s l) : okI s l = true ∧ zof s l = x := by
 obtain ⟨rfl, rfl⟩ := h
 refine ⟨?_, zof_z x⟩
 unfold okI
 rw [good_limbs]
 by_cases hx : x < 0
 · have : 0 < (limbs x.natAbs).length := len_pos.2 (by omega)
   simp [hx]
   intro h2
   rw [h2] at this
   simp at this
 · simp [hx]
def notOwn (v : Value) : Zone := ⟨fun b => v.ownBlock ≠ some b, False⟩
theorem U64s.growO {l : List Nat} (h : U64s w (notOwn v) A c l) (hg : w.grownBy w' v.ownBlock) (hf : Fresh w v v') : U64s w' (notOwn v') A c l := by
 have h1 := h.keep (w' := w') fun b hb hl => hg.block b hl (fun e => hb e.symm)
 refine ⟨h1.small, h1.cap, h1.max, h1.nul, fun h0 => ?_⟩
 obtain ⟨b, o, e, hb, hfz, hc⟩ := h1.row h0
 obtain ⟨b2, o2, e2, hb2, _, hc2⟩ := h.row h0
 rw [e] at e2
 injection e2 with e2
 injection e2 with e3 e4
 subst e3 e4
 have hlt := lt_of_cell (hc2 0 _ (List.getElem?_eq_getElem h0))
 refine ⟨b, o, e, fun e5 => ?_, fun h => h.elim, hc⟩
 rcases hf with h3 | h3
 · exact hb (h3.symm.trans e5)
 · have h4 := h3 b e5
   have h5 : b < w.heap.size := hlt
   omega
theorem Nm.uniq {l k : List Nat} (h : Nm x s l) (h' : Nm x t k) : s = t ∧ l = k := ⟨h.1.trans h'.1.symm, h.2.trans h'.2.symm⟩
end Go.Proofs.YtcheajjjdbllfaaGreat
