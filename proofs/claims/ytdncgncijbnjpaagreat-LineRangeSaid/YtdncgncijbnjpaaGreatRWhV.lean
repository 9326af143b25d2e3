/- Intervals: ends as places. No conditions. -/
import Derived.Deep.RegionLaw
import Derived.Deep.RegionHeld3
import Derived.Test.YtdncgncijbnjpaaGreatRVecC
import Derived.Test.YtdncgncijbnjpaaGreatRVecH
import Derived.Test.YtdncgncijbnjpaaGreatRWhU
import Derived.Test.YtdncgncijbnjpaaGreatRW5G
import Derived.Test.YtdncgncijbnjpaaGreatRBoxL
import Derived.Test.YtdncgncijbnjpaaGreatRW5D
import Derived.Test.YtdncgncijbnjpaaGreatRW5C
import Derived.Test.YtdncgncijbnjpaaGreatRRefQ
set_option linter.unusedVariables false
set_option linter.unusedSimpArgs false
set_option maxRecDepth 100000
set_option maxHeartbeats 40000000
namespace Go.Proofs.YtdncgncijbnjpaaGreat
open Go.Lib (hid)
open Go.RowKit
variable {A A' B C D rA : Option Addr} {K base c c' fuel g h i j m rc : Nat} {M b rb x y : Int} {W W' w' : World} {Y Z Z1 Z2 Z3 Z4 : Zone} {a a0 a1 a2 a3 a4 a5 b0 b1 b2 b3 b4 b5 d e f v v0 v1 v2 v3 v4 v5 : Value} {cs : List Value} {held m0 m1 n0 rs s s' s0 s1 t t0 t1 : Bool} {k0 k1 l' l0 l1 rl : List Nat} {tv u : TypeId}
def Fresh (w : World) (v v' : Value) : Prop := v'.ownBlock = v.ownBlock ∨ ∀ k, v'.ownBlock = some k → w.heap.size ≤ k
theorem append_fresh {P : Program} (w : World) (base : Nat) (t ty e : TypeId) (i : TypeInfo) (z : Value) (size bytes : Nat) (ht : P.underlying t = some (.slice e)) (hi : P.info? e = some i) (hz : i.zero = some z)
  (hsize : i.size = size) (hby : i.bytes = bytes) (hzs : z.cells.size = size) (hsz : 0 < size)
  (v : Value) (n : Nat) (xs : List Value) (hown : w.ownsRow base e size v n xs)
  (a : Addr) (m c : Nat) (news : List Value) (hl : news.length = m * size) (hnews : ∀ j u, news[j]? = some u → w.cell? (a.add j) = some u) (h1 : ∀ u ∈ news, u.oneCell' = true)
  (h63 : n + m ≤ maxLen) (hbytes : (n + m) * bytes ≤ 140737488355328) (hbase : base ≤ w.heap.size) :
  ∃ v' w', (Builtin.append_ #[t, t] ty #[v, .slice (some a) m c]).run P w = .ok v' w' ∧ w'.ownsRow base e size v' (n + m) (xs ++ news) ∧ w.grownBy w' v.ownBlock ∧ Fresh w v v' := by
 obtain ⟨v', w', B, G, H, _⟩ := run_append_own (P := P) w base t ty e i z size bytes ht hi hz hsize hby hzs hsz v n xs hown a m c news hl hnews h1 h63 hbytes hbase
 refine ⟨v', w', B, G, H, ?_⟩
 have C := hown.2
 rcases C with ⟨rfl, rfl⟩ | ⟨g, cap, cur, rfl, hbg, hg, hnc, hcm, hcs, htake⟩
 · right
   have D : xs = [] := List.eq_nil_of_length_eq_zero (by simpa using hown.1)
   subst D
   obtain ⟨J, K, A, I, _, _⟩ := run_append_own (P := P) w w.heap.size t ty e i z size bytes ht hi hz hsize hby hzs hsz (.slice none 0 0) 0 [] (World.ownsRow_nil _ _ _ _) a m c news hl hnews h1 h63 hbytes (Nat.le_refl _)
   rw [B] at A
   injection A with e1 e2
   subst e1 e2
   exact fun k hk => (I.lt k hk).1
 · by_cases hroom : n + m ≤ cap
   · left
     have E : n * i.size + news.length ≤ cur.size := by rw [hl, hcs, hsize, ← Nat.add_mul]; exact Nat.mul_le_mul_right _ hroom
     have A := run_append_room (P := P) w t ty e i ht hi g n cap cur hg a m c news (by rw [hsize]; exact hl) hnews h1 hroom E
     rw [B] at A
     injection A with e1 e2
     rw [e1]
     rfl
   · right
     have F : ∀ j u, xs[j]? = some u → w.cell? ((⟨g, 0, none⟩ : Addr).add j) = some u := hown.cells (g := g) rfl
     have A := run_append_grow (P := P) w t ty e i z ht hi hz ⟨g, 0, none⟩ n cap xs (by rw [hsize]; exact hown.1) F a m c news (by rw [hsize]; exact hl) hnews (by omega) (by simp only [maxLen] at h63; omega) (growslice_fits (by omega) (by rw [hby]; exact hbytes))
     rw [B] at A
     injection A with e1 e2
     rw [e1]
     intro k hk
     simp [Value.ownBlock] at hk
     omega
theorem wpList_appF {P : Program} (w : World) {ops : Array Oper} {rest : List Oper} {o : Oper} {a : Act} {Q : Exit → Act → World → Prop} (hgd : o.guard = none) (s x : Operand) (t : TypeId)
  (ho : o.op = .call { callee := .builtin .append, args := #[s, x], argTypes := #[t, t] })
  (base : Nat) (e : TypeId) (i : TypeInfo) (z : Value) (size bytes : Nat) (ht : P.underlying t = some (.slice e)) (hi : P.info? e = some i) (hz : i.zero = some z) (hsize : i.size = size) (hby : i.bytes = bytes) (hzs : z.cells.size = size) (hsz : 0 < size) (hbb : bytes ≤ 1000)
  (v : Value) (n : Nat) (xs : List Value) (hs : a.eval s = v) (hown : w.ownsRow base e size v n xs)
  (g : Nat) (news : List Value) (hx : a.eval x = .slice (some ⟨g, 0, none⟩) 1 1) (hl : news.length = size) (hc : ∀ j u, news[j]? = some u → w.cell? ⟨g, j, none⟩ = some u) (h1 : ∀ u ∈ news, u.oneCell' = true)
  (hb : n + 1 ≤ 1000000000) (hbase : base ≤ w.heap.size)
  (h : ∀ A B, B.ownsRow base e size A (n + 1) (xs ++ news) → w.grownBy B v.ownBlock → Fresh w v A → wpList P ops Q rest (a.put o.dst A) B) : wpList P ops Q (o :: rest) a w := by
 refine wpList_plain hgd fun _ hK => ?_
 have C : (n + 1) * bytes ≤ 140737488355328 := Nat.le_trans (Nat.mul_le_mul hb hbb) (by omega)
 obtain ⟨A, B, D, E, F, G⟩ := append_fresh (P := P) w base t o.type e i z size bytes ht hi hz hsize hby hzs hsz v n xs hown ⟨g, 0, none⟩ 1 1 news (by omega) (fun j u hu => by rw [Addr.add_lit, Nat.zero_add]; exact hc j u hu) h1 (by simp only [maxLen]; omega) C hbase
 unfold Oper.wp
 simp [execOp, ho, resolve, invoke, builtin, hs, hx, D, Result.andThen]
 exact hK _ _ (h A B E F G)
theorem step_appF {P : Program} {ops : Array Oper} {o : Oper} {a : Act} {w : World} {K : Act → World → Prop} {Q : Exit → Act → World → Prop} {E : Prop}
  (hg : o.guard = none) (s x : Operand) (t : TypeId) (hop : o.op = Op.call { callee := Callee.builtin Builtin.append, args := #[s, x], argTypes := #[t, t] })
  (base : Nat) (e : TypeId) (i : TypeInfo) (z : Value) (size bytes : Nat) (ht : P.underlying t = some (.slice e)) (hi : P.info? e = some i) (hz : i.zero = some z) (hsize : i.size = size) (hby : i.bytes = bytes) (hzs : z.cells.size = size) (hsz : 0 < size) (hbb : bytes ≤ 1000)
  (v : Value) (n : Nat) (xs : List Value) (hs : a.eval s = v) (hown : w.ownsRow base e size v n xs)
  (g : Nat) (news : List Value) (hx : a.eval x = .slice (some ⟨g, 0, none⟩) 1 1) (hl : news.length = size) (hc : ∀ j u, news[j]? = some u → w.cell? ⟨g, j, none⟩ = some u) (h1 : ∀ u ∈ news, u.oneCell' = true)
  (hb : n + 1 ≤ 1000000000) (hbase : base ≤ w.heap.size)
  (hK : ∀ A B, B.ownsRow base e size A (n + 1) (xs ++ news) → w.grownBy B v.ownBlock → Fresh w v A → K (a.put o.dst A) B) :
  if Region.wanted o (yielded ops a.tmps) = true then Oper.wp P o a w K Q else E := by
 have C : Region.wanted o (yielded ops a.tmps) = true := by simp [Region.wanted, hg]
 rw [if_pos C]
 have D : (n + 1) * bytes ≤ 140737488355328 := Nat.le_trans (Nat.mul_le_mul hb hbb) (by omega)
 obtain ⟨A, B, F, G, H, I⟩ := append_fresh (P := P) w base t o.type e i z size bytes ht hi hz hsize hby hzs hsz v n xs hown ⟨g, 0, none⟩ 1 1 news (by omega) (fun j u hu => by rw [Addr.add_lit, Nat.zero_add]; exact hc j u hu) h1 (by simp only [maxLen]; omega) D hbase
 unfold Oper.wp
 simp [execOp, hop, resolve, invoke, builtin, hs, hx, F, Result.andThen]
 exact hK A B G H I
def newX (B : Nat) (v : Value) : Zone := ⟨fun b => B ≤ b ∧ v.ownBlock ≠ some b, True⟩
theorem newX_le (B : Nat) (v : Value) : (newX B v).le (new B) := ⟨fun _ h => h.1, fun h => h⟩
theorem U64s.toX {w : World} {B : Nat} {l : List Nat} (h : U64s w (new K) A c l) (hv : ∀ k, v.ownBlock = some k → k < K) (hB : B ≤ K) : U64s w (newX B v) A c l :=
 h.mono ⟨fun b hb => ⟨Nat.le_trans hB hb, fun e => by have C := hv b e; have D : K ≤ b := hb; omega⟩, fun h => h⟩
theorem U64s.grow {w : World} {B : Nat} {v' : Value} {l : List Nat} (h : U64s w (newX B v) A c l) (hg : w.grownBy w' v.ownBlock) (hf : Fresh w v v') : U64s w' (newX B v') A c l := by
 have C := h.keep (w' := w') fun b D hl => hg.block b hl (fun e => D.2 e.symm)
 refine ⟨C.small, C.cap, C.max, C.nul, fun h0 => ?_⟩
 obtain ⟨b, o, e, D, G, H⟩ := C.row h0
 obtain ⟨L, M, E, N, _, I⟩ := h.row h0
 rw [e] at E
 injection E with E
 injection E with e3 e4
 subst e3 e4
 have F := lt_of_cell (I 0 _ (List.getElem?_eq_getElem h0))
 refine ⟨b, o, e, ⟨D.1, fun e5 => ?_⟩, G, H⟩
 rcases hf with h3 | h3
 · exact D.2 (h3.symm.trans e5)
 · have J := h3 b e5
   have K : b < w.heap.size := F
   omega
def okE (n s : Bool) (l : List Nat) : Bool := bif n then (!s && decide (l.length = 0)) else okI s l
theorem imay_any {w : World} {n : Bool} {l : List Nat} (hu : U64s w Z A c l) :
  Calls Tryz.prog 139 #[.agg #[.bool n, .bool s, .slice A l.length c]] w fun e w' => e = .returned (.bool (okE n s l)) ∧ Below w.heap.size w w' := by
 have J := hu.len
 have B : Below w.heap.size w (w.alloc (.cells #[.bool n, .bool s, .slice A l.length c] 37)) := (Below.refl _ w).alloc (Nat.le_refl _) _
 obtain ⟨M, N, H, _, _, _, _⟩ := Box3.new w (.bool n) (.bool s) (.slice A l.length c) 37
 have C := wcheck_any (a := .agg #[.bool s, .slice A l.length c]) ⟨_, rfl, A, c, rfl, hu.below B⟩
 have D := hid B
 cases n with
 | false =>
   rw [show okE false s l = okI s l from rfl]
   cases hg : okI s l with
   | true =>
     rw [show errC s l = 0 by simp [errC, hg]] at C
     have F := hid C
     clear C hu B hg
     go_enter Tryz.func139, Tryz.ntmps139
     go_wp2_with fail
     refine F.out.mono ?_
     rintro e I ⟨rfl, G⟩
     go_wp2
     go_ret
     exact ⟨rfl, from_ D.out G⟩
   | false =>
     rw [show errC s l = 8 by simp [errC, hg]] at C
     have F := hid C
     clear C hu B hg
     go_enter Tryz.func139, Tryz.ntmps139
     go_wp2_with fail
     refine F.out.mono ?_
     rintro e I ⟨rfl, G⟩
     go_wp2
     go_ret
     exact ⟨rfl, from_ D.out G⟩
 | true =>
   clear C
   cases s with
   | true =>
     clear hu B
     go_enter Tryz.func139, Tryz.ntmps139
     go_wp2
     go_ret
     exact ⟨rfl, D.out⟩
   | false =>
     by_cases h0 : l.length = 0
     · have E : okE true false l = true := by simp [okE, h0]
       rw [E]
       rw [h0] at H D ⊢
       clear hu B E
       go_enter Tryz.func139, Tryz.ntmps139
       go_wp2
       go_ret
       exact ⟨rfl, D.out⟩
     · have E : okE true false l = false := by simp [okE, h0]
       rw [E]
       have K : ((l.length : Int) == (0 : Int)) = false := beq_eq_false_iff_ne.2 (by omega)
       have L : decide ((l.length : Int) = (0 : Int)) = false := decide_eq_false (by omega)
       clear hu B E
       go_enter Tryz.func139, Tryz.ntmps139
       go_wp2
       go_ret
       exact ⟨rfl, D.out⟩
structure Box6 (W : World) (g : Nat) (a b c d e f : Value) : Prop where
 c0 : W.cell? ⟨g, 0, none⟩ = some a
 c1 : W.cell? ⟨g, 1, none⟩ = some b
 c2 : W.cell? ⟨g, 2, none⟩ = some c
 c3 : W.cell? ⟨g, 3, none⟩ = some d
 c4 : W.cell? ⟨g, 4, none⟩ = some e
 c5 : W.cell? ⟨g, 5, none⟩ = some f
 f0 : W.frozen? ⟨g, 0, none⟩ = false
 f1 : W.frozen? ⟨g, 1, none⟩ = false
 f2 : W.frozen? ⟨g, 2, none⟩ = false
 f3 : W.frozen? ⟨g, 3, none⟩ = false
 f4 : W.frozen? ⟨g, 4, none⟩ = false
 f5 : W.frozen? ⟨g, 5, none⟩ = false
 lt : g < W.heap.size
theorem Box6.new (w : World) (a b c d e f : Value) (t : TypeId) : Box6 (w.alloc (.cells #[a, b, c, d, e, f] t)) w.heap.size a b c d e f :=
 ⟨cell_newest rfl rfl, cell_newest rfl rfl, cell_newest rfl rfl, cell_newest rfl rfl, cell_newest rfl rfl, cell_newest rfl rfl, by simp, by simp, by simp, by simp, by simp, by simp, by simp⟩
theorem Box6.below {b c : Value} (h : Box6 W g a b c d e f) (hb : Below W.heap.size W W') : Box6 W' g a b c d e f :=
 ⟨keepC hb h.c0, keepC hb h.c1, keepC hb h.c2, keepC hb h.c3, keepC hb h.c4, keepC hb h.c5, keepF hb h.lt h.f0, keepF hb h.lt h.f1, keepF hb h.lt h.f2, keepF hb h.lt h.f3, keepF hb h.lt h.f4, keepF hb h.lt h.f5, Nat.lt_of_lt_of_le h.lt hb.size⟩
theorem Box6.all {b c : Value} (h : Box6 W g a b c d e f) : W.cell? ⟨g, 0, none⟩ = some a ∧ W.cell? ⟨g, 1, none⟩ = some b ∧ W.cell? ⟨g, 2, none⟩ = some c ∧ W.cell? ⟨g, 3, none⟩ = some d ∧ W.cell? ⟨g, 4, none⟩ = some e ∧ W.cell? ⟨g, 5, none⟩ = some f := ⟨h.c0, h.c1, h.c2, h.c3, h.c4, h.c5⟩
theorem Box6.cf {b c : Value} (h : Box6 W g a b c d e f) : (W.cell? ⟨g, 0, none⟩ = some a ∧ W.cell? ⟨g, 1, none⟩ = some b ∧ W.cell? ⟨g, 2, none⟩ = some c ∧ W.cell? ⟨g, 3, none⟩ = some d ∧ W.cell? ⟨g, 4, none⟩ = some e ∧ W.cell? ⟨g, 5, none⟩ = some f) ∧ W.frozen? ⟨g, 0, none⟩ = false ∧ W.frozen? ⟨g, 1, none⟩ = false ∧ W.frozen? ⟨g, 2, none⟩ = false ∧ W.frozen? ⟨g, 3, none⟩ = false ∧ W.frozen? ⟨g, 4, none⟩ = false ∧ W.frozen? ⟨g, 5, none⟩ = false := ⟨⟨h.c0, h.c1, h.c2, h.c3, h.c4, h.c5⟩, h.f0, h.f1, h.f2, h.f3, h.f4, h.f5⟩
theorem Box6.alloc {b c : Value} (h : Box6 W g a b c d e f) (o : Obj) : Box6 (W.alloc o) g a b c d e f := h.below ((Below.refl _ W).alloc (Nat.le_refl _) _)
theorem loadVar_itv {w : World} {b c : Value} (h : Box6 w g a b c d e f) :
  (loadVar 39 ⟨g, 0, none⟩).run Tryz.prog w = .ok (.agg #[a, b, c, d, e, f]) w := by
 have B := h.all
 unfold loadVar
 go_simp
theorem loadVar_bound {w : World} (h0 : w.cell? ⟨g, 0, none⟩ = some v0) (h1 : w.cell? ⟨g, 1, none⟩ = some v1) (h2 : w.cell? ⟨g, 2, none⟩ = some v2) :
  (loadVar 37 ⟨g, 0, none⟩).run Tryz.prog w = .ok (.agg #[v0, v1, v2]) w := by
 unfold loadVar
 go_simp
theorem loadVar_place {w : World} (h0 : w.cell? ⟨g, 0, none⟩ = some v0) (h1 : w.cell? ⟨g, 1, none⟩ = some v1) (h2 : w.cell? ⟨g, 2, none⟩ = some v2) :
  (loadVar 93 ⟨g, 0, none⟩).run Tryz.prog w = .ok (.agg #[v0, v1, v2]) w := by
 unfold loadVar
 go_simp
theorem res_itv {fn : Func} {p : Tmp} (h : fn.results = #[.cell p 39]) (tmps : Array Value) {w : World} (g : Nat) {b c : Value} (hp : tmps.getD p undef = .pointer (some ⟨g, 0, none⟩)) (hB : Box6 w g a b c d e f) :
  (results fn tmps).run Tryz.prog w = .ok (.agg #[a, b, c, d, e, f]) w := by
 have B : tmps[p]?.getD undef = .pointer (some ⟨g, 0, none⟩) := by simpa using hp
 simp [results, h, B, asAddr, loadVar_itv hB]
theorem res_itv2 {fn : Func} {p u : Tmp} (h : fn.results = #[.cell p 39, .tmp u]) (tmps : Array Value) {w : World} (g : Nat) {b c : Value} (hp : tmps.getD p undef = .pointer (some ⟨g, 0, none⟩)) (hB : Box6 w g a b c d e f) :
  (results fn tmps).run Tryz.prog w = .ok (.tuple #[.agg #[a, b, c, d, e, f], tmps.getD u undef]) w := by
 rw [results_cell_tmp h, hp]
 simp [asAddr, Result.andThen, loadVar_itv hB]
theorem res_bound {fn : Func} {p : Tmp} (h : fn.results = #[.cell p 37]) (tmps : Array Value) {w : World} (g : Nat) (hp : tmps.getD p undef = .pointer (some ⟨g, 0, none⟩)) (h0 : w.cell? ⟨g, 0, none⟩ = some v0) (h1 : w.cell? ⟨g, 1, none⟩ = some v1) (h2 : w.cell? ⟨g, 2, none⟩ = some v2) :
  (results fn tmps).run Tryz.prog w = .ok (.agg #[v0, v1, v2]) w := by
 have B : tmps[p]?.getD undef = .pointer (some ⟨g, 0, none⟩) := by simpa using hp
 simp [results, h, B, asAddr, loadVar_bound h0 h1 h2]
theorem res_place {fn : Func} {p : Tmp} (h : fn.results = #[.cell p 93]) (tmps : Array Value) {w : World} (g : Nat) (hp : tmps.getD p undef = .pointer (some ⟨g, 0, none⟩)) (h0 : w.cell? ⟨g, 0, none⟩ = some v0) (h1 : w.cell? ⟨g, 1, none⟩ = some v1) (h2 : w.cell? ⟨g, 2, none⟩ = some v2) :
  (results fn tmps).run Tryz.prog w = .ok (.agg #[v0, v1, v2]) w := by
 have B : tmps[p]?.getD undef = .pointer (some ⟨g, 0, none⟩) := by simpa using hp
 simp [results, h, B, asAddr, loadVar_place h0 h1 h2]
def okA (n0 s0 : Bool) (l0 : List Nat) (n1 s1 : Bool) (l1 : List Nat) : Bool := okE n0 s0 l0 && (okE n1 s1 l1 && (n0 || (n1 || decide (zof s0 l0 ≤ zof s1 l1))))
def errA (n0 s0 : Bool) (l0 : List Nat) (n1 s1 : Bool) (l1 : List Nat) : Int := if okA n0 s0 l0 n1 s1 l1 = true then 0 else 8
theorem sgn_le (h : x ≤ y) : sgn (x - y) ≤ 0 := by unfold sgn; split <;> (try split) <;> omega
theorem sgn_gt (h : ¬ x ≤ y) : ¬ sgn (x - y) ≤ 0 := by unfold sgn; split <;> (try split) <;> omega
theorem zof_len {l : List Nat} (h : okI s l = true) (hs : Small l) : (limbs (zof s l).natAbs).length = l.length := by rw [(zof_enc h hs).2]
theorem icheck_any {w : World} {n1 : Bool} {d : Nat} (hu : U64s w Z A c l0) (hv : U64s w Y B d l1) (hl : l0.length ≤ 9000) (hl2 : l1.length ≤ 9000) :
  Calls Tryz.prog 84 #[.agg #[.bool n0, .bool s0, .slice A l0.length c, .bool n1, .bool s1, .slice B l1.length d]] w fun e w' => e = .returned (.int .i64 (errA n0 s0 l0 n1 s1 l1)) ∧ Below w.heap.size w w' := by
 have Kb := hu.small
 have Kc := hv.small
 obtain ⟨C, D, E, F, G, H, _, _, _, _, _, _, _⟩ := Box6.new w (.bool n0) (.bool s0) (.slice A l0.length c) (.bool n1) (.bool s1) (.slice B l1.length d) 39
 obtain ⟨X, N⟩ := hid2 (Box6.new w (.bool n0) (.bool s0) (.slice A l0.length c) (.bool n1) (.bool s1) (.slice B l1.length d) 39) ((Below.refl _ w).alloc (Nat.le_refl _) (.cells #[.bool n0, .bool s0, .slice A l0.length c, .bool n1, .bool s1, .slice B l1.length d] 39))
 obtain ⟨p, v⟩ : ∃ p, p = okE n0 s0 l0 := ⟨_, rfl⟩
 obtain ⟨q, z⟩ : ∃ q, q = okE n1 s1 l1 := ⟨_, rfl⟩
 obtain ⟨R, a, Hu, Hv, S, b⟩ := hid6 v z hu hv (fun (W : World) (h : Below w.heap.size w W) => imay_any (n := n0) (s := s0) (hu.below h)) (fun (W : World) (h : Below w.heap.size w W) => imay_any (n := n1) (s := s1) (hv.below h))
 rw [← v] at S
 rw [← z] at b
 clear hu hv v z
 cases p with
 | false =>
   have I : errA n0 s0 l0 n1 s1 l1 = 8 := by simp [errA, okA, ← R.out]
   rw [I]
   clear I
   go_enter Tryz.func84, Tryz.ntmps84
   go_wp2_with fail
   refine (S.out _ N.out).mono ?_
   rintro e j ⟨rfl, J⟩
   have K := from_ N.out J
   have L := hid (X.out.below J)
   clear C D E F G H
   obtain ⟨C, D, E, F, G, H, _, _, _, _, _, _, _⟩ := L.out
   go_wp2
   go_ret
   exact ⟨rfl, K⟩
 | true =>
   cases q with
   | false =>
     have I : errA n0 s0 l0 n1 s1 l1 = 8 := by simp [errA, okA, ← R.out, ← a.out]
     rw [I]
     clear I
     go_enter Tryz.func84, Tryz.ntmps84
     go_wp2_with fail
     refine (S.out _ N.out).mono ?_
     rintro e j ⟨rfl, J⟩
     have K := from_ N.out J
     have L := hid (X.out.below J)
     clear C D E F G H
     obtain ⟨C, D, E, F, G, H, _, _, _, _, _, _, _⟩ := L.out
     go_wp2_with fail
     refine (b.out _ K).mono ?_
     rintro e r ⟨rfl, M⟩
     have O := from_ K M
     have Q := hid (L.out.below M)
     clear C D E F G H
     obtain ⟨C, D, E, F, G, H, _, _, _, _, _, _, _⟩ := Q.out
     go_wp2
     go_ret
     exact ⟨rfl, O⟩
   | true =>
     cases n0 with
     | true =>
       have I : errA true s0 l0 n1 s1 l1 = 0 := by simp [errA, okA, ← R.out, ← a.out]
       rw [I]
       clear I
       go_enter Tryz.func84, Tryz.ntmps84
       go_wp2_with fail
       refine (S.out _ N.out).mono ?_
       rintro e j ⟨rfl, J⟩
       have K := from_ N.out J
       have L := hid (X.out.below J)
       clear C D E F G H
       obtain ⟨C, D, E, F, G, H, _, _, _, _, _, _, _⟩ := L.out
       go_wp2_with fail
       refine (b.out _ K).mono ?_
       rintro e r ⟨rfl, M⟩
       have O := from_ K M
       have Q := hid (L.out.below M)
       clear C D E F G H
       obtain ⟨C, D, E, F, G, H, _, _, _, _, _, _, _⟩ := Q.out
       go_wp2
       go_ret
       exact ⟨rfl, O⟩
     | false =>
       cases n1 with
       | true =>
         have I : errA false s0 l0 true s1 l1 = 0 := by simp [errA, okA, ← R.out, ← a.out]
         rw [I]
         clear I
         go_enter Tryz.func84, Tryz.ntmps84
         go_wp2_with fail
         refine (S.out _ N.out).mono ?_
         rintro e j ⟨rfl, J⟩
         have K := from_ N.out J
         have L := hid (X.out.below J)
         clear C D E F G H
         obtain ⟨C, D, E, F, G, H, _, _, _, _, _, _, _⟩ := L.out
         go_wp2_with fail
         refine (b.out _ K).mono ?_
         rintro e r ⟨rfl, M⟩
         have O := from_ K M
         have Q := hid (L.out.below M)
         clear C D E F G H
         obtain ⟨C, D, E, F, G, H, _, _, _, _, _, _, _⟩ := Q.out
         go_wp2
         go_ret
         exact ⟨rfl, O⟩
       | false =>
         have m : okI s0 l0 = true := R.out.symm
         have o : okI s1 l1 = true := a.out.symm
         have z0 := zof_len m Kb
         have z1 := zof_len o Kc
         have n0 := Nm.ok m Kb
         have n1 := Nm.ok o Kc
         have P : zof s0 l0 ≤ zof s1 l1 ∨ ¬ zof s0 l0 ≤ zof s1 l1 := Decidable.em _
         obtain ⟨x, T⟩ : ∃ x, x = zof s0 l0 := ⟨_, rfl⟩
         obtain ⟨y, U⟩ : ∃ y, y = zof s1 l1 := ⟨_, rfl⟩
         rw [← T] at z0 n0 P
         rw [← U] at z1 n1 P
         obtain ⟨g, V⟩ : ∃ g, g = sgn (x - y) := ⟨_, rfl⟩
         have H3 := hid (fun (W : World) (h : Below w.heap.size w W) => cmp_n (w := W) n0 n1 V.symm (by omega) (by omega) (Hu.out.below h) (Hv.out.below h))
         clear z0 z1 n0 n1
         rcases P with P | P
         · have i : g ≤ 0 := by rw [V]; exact sgn_le P
           have I : errA false s0 l0 false s1 l1 = 0 := by simp [errA, okA, ← R.out, ← a.out, ← T, ← U, P]
           rw [I]
           clear I
           have hd : decide (g ≤ 0) = true := by simpa using i
           have Kd : decide (0 < g) = false := by simp; omega
           obtain ⟨HK, Ke, Kf⟩ := hid3 T U V
           clear T U V P i m o
           go_enter Tryz.func84, Tryz.ntmps84
           go_wp2_with fail
           refine (S.out _ N.out).mono ?_
           rintro e j ⟨rfl, J⟩
           have K := from_ N.out J
           have L := hid (X.out.below J)
           clear C D E F G H
           obtain ⟨C, D, E, F, G, H, _, _, _, _, _, _, _⟩ := L.out
           go_wp2_with fail
           refine (b.out _ K).mono ?_
           rintro e r ⟨rfl, M⟩
           have O := from_ K M
           have Q := hid (L.out.below M)
           clear C D E F G H
           obtain ⟨C, D, E, F, G, H, _, _, _, _, _, _, _⟩ := Q.out
           go_wp2_with fail
           refine (H3.out _ O).mono ?_
           rintro e w3 ⟨rfl, Ka⟩
           have u := from_ O Ka
           go_wp2
           go_ret
           exact ⟨rfl, u⟩
         · have i : ¬ g ≤ 0 := by rw [V]; exact sgn_gt P
           have I : errA false s0 l0 false s1 l1 = 8 := by simp [errA, okA, ← R.out, ← a.out, ← T, ← U, P]
           rw [I]
           clear I
           have hd : decide (g ≤ 0) = false := by simpa using i
           have Kd : decide (0 < g) = true := by simp; omega
           obtain ⟨HK, Ke, Kf⟩ := hid3 T U V
           clear T U V P i m o
           go_enter Tryz.func84, Tryz.ntmps84
           go_wp2_with fail
           refine (S.out _ N.out).mono ?_
           rintro e j ⟨rfl, J⟩
           have K := from_ N.out J
           have L := hid (X.out.below J)
           clear C D E F G H
           obtain ⟨C, D, E, F, G, H, _, _, _, _, _, _, _⟩ := L.out
           go_wp2_with fail
           refine (b.out _ K).mono ?_
           rintro e r ⟨rfl, M⟩
           have O := from_ K M
           have Q := hid (L.out.below M)
           clear C D E F G H
           have C := Q.out.all
           go_wp2_with fail
           refine (H3.out _ O).mono ?_
           rintro e w3 ⟨rfl, Ka⟩
           have u := from_ O Ka
           go_wp2
           go_ret
           exact ⟨rfl, u⟩
def Plc (k : Int) (n s : Bool) (l : List Nat) (A : Option Addr) (c : Nat) (b : Int) (s' : Bool) (l' : List Nat) (A' : Option Addr) (c' : Nat) : Prop :=
 (n = true ∧ b = k ∧ s' = false ∧ l' = [] ∧ A' = none ∧ c' = 0) ∨ (n = false ∧ b = 0 ∧ s' = s ∧ l' = l ∧ A' = A ∧ c' = c)
theorem Plc.ex (k : Int) (n s : Bool) (l : List Nat) (A : Option Addr) (c : Nat) : ∃ b s' l' A' c', Plc k n s l A c b s' l' A' c' := by
 cases n
 · exact ⟨_, _, _, _, _, Or.inr ⟨rfl, rfl, rfl, rfl, rfl, rfl⟩⟩
 · exact ⟨_, _, _, _, _, Or.inl ⟨rfl, rfl, rfl, rfl, rfl, rfl⟩⟩
theorem boxP (w : World) (v0 v1 v2 v3 v4 v5 p0 p1 p2 : Value) (t u : TypeId) :
  Box6 ((w.alloc (.cells #[v0, v1, v2, v3, v4, v5] t)).alloc (.cells #[p0, p1, p2] u)) w.heap.size v0 v1 v2 v3 v4 v5 ∧
  Box3 ((w.alloc (.cells #[v0, v1, v2, v3, v4, v5] t)).alloc (.cells #[p0, p1, p2] u)) (w.heap.size + 1) p0 p1 p2 ∧
  Below w.heap.size w ((w.alloc (.cells #[v0, v1, v2, v3, v4, v5] t)).alloc (.cells #[p0, p1, p2] u)) := by
 have B := (Box6.new w v0 v1 v2 v3 v4 v5 t).alloc (.cells #[p0, p1, p2] u)
 have A := Box3.new (w.alloc (.cells #[v0, v1, v2, v3, v4, v5] t)) p0 p1 p2 u
 rw [show (w.alloc (.cells #[v0, v1, v2, v3, v4, v5] t)).heap.size = w.heap.size + 1 by simp] at A
 exact ⟨B, A, ((Below.refl _ w).alloc (Nat.le_refl _) _).alloc (by simp) _⟩
theorem ilow_p {w : World} {n : Bool} {l : List Nat} (h : Plc (-1) n s l A c b s' l' A' c') :
  Calls Tryz.prog 36 #[.agg #[.bool n, .bool s, .slice A l.length c, v3, v4, v5]] w fun e w' => e = .returned (.agg #[.int .i64 b, .bool s', .slice A' l'.length c']) ∧ Below w.heap.size w w' := by
 rcases h with ⟨rfl, rfl, rfl, rfl, rfl, rfl⟩ | ⟨rfl, rfl, rfl, rfl, rfl, rfl⟩
 · obtain ⟨D, _, _⟩ := boxP w (.bool true) (.bool s) (.slice A l.length c) v3 v4 v5 (.int .i64 0) (.bool false) (.slice none 0 0) 39 93
   have C := hid (boxP w (.bool true) (.bool s) (.slice A l.length c) v3 v4 v5 (.int .i64 (-1)) (.bool false) (.slice none 0 0) 39 93)
   obtain ⟨c0, c1, c2, _⟩ := D
   go_enter Tryz.func36, Tryz.ntmps36
   go_wp2
   obtain ⟨_, B, E⟩ := C.out
   refine bodyPost_ret (res_place rfl _ (w.heap.size + 1) rfl B.c0 B.c1 B.c2) rfl ?_
   exact ⟨rfl, E⟩
 · obtain ⟨D, _, _⟩ := boxP w (.bool false) (.bool s') (.slice A' l'.length c') v3 v4 v5 (.int .i64 0) (.bool false) (.slice none 0 0) 39 93
   have C := hid (boxP w (.bool false) (.bool s') (.slice A' l'.length c') v3 v4 v5 (.int .i64 0) (.bool s') (.slice A' l'.length c') 39 93)
   obtain ⟨c0, c1, c2, _⟩ := D
   go_enter Tryz.func36, Tryz.ntmps36
   go_wp2
   obtain ⟨_, B, E⟩ := C.out
   refine bodyPost_ret (res_place rfl _ (w.heap.size + 1) rfl B.c0 B.c1 B.c2) rfl ?_
   exact ⟨rfl, E⟩
theorem ihigh_p {w : World} {n : Bool} {l : List Nat} (h : Plc 1 n s l A c b s' l' A' c') :
  Calls Tryz.prog 37 #[.agg #[v3, v4, v5, .bool n, .bool s, .slice A l.length c]] w fun e w' => e = .returned (.agg #[.int .i64 b, .bool s', .slice A' l'.length c']) ∧ Below w.heap.size w w' := by
 rcases h with ⟨rfl, rfl, rfl, rfl, rfl, rfl⟩ | ⟨rfl, rfl, rfl, rfl, rfl, rfl⟩
 · obtain ⟨D, _, _⟩ := boxP w v3 v4 v5 (.bool true) (.bool s) (.slice A l.length c) (.int .i64 0) (.bool false) (.slice none 0 0) 39 93
   have C := hid (boxP w v3 v4 v5 (.bool true) (.bool s) (.slice A l.length c) (.int .i64 1) (.bool false) (.slice none 0 0) 39 93)
   obtain ⟨c0, c1, c2, F, G, H, _⟩ := D
   go_enter Tryz.func37, Tryz.ntmps37
   go_wp2
   obtain ⟨_, B, E⟩ := C.out
   refine bodyPost_ret (res_place rfl _ (w.heap.size + 1) rfl B.c0 B.c1 B.c2) rfl ?_
   exact ⟨rfl, E⟩
 · obtain ⟨D, _, _⟩ := boxP w v3 v4 v5 (.bool false) (.bool s') (.slice A' l'.length c') (.int .i64 0) (.bool false) (.slice none 0 0) 39 93
   have C := hid (boxP w v3 v4 v5 (.bool false) (.bool s') (.slice A' l'.length c') (.int .i64 0) (.bool s') (.slice A' l'.length c') 39 93)
   obtain ⟨c0, c1, c2, F, G, H, _⟩ := D
   go_enter Tryz.func37, Tryz.ntmps37
   go_wp2
   obtain ⟨_, B, E⟩ := C.out
   refine bodyPost_ret (res_place rfl _ (w.heap.size + 1) rfl B.c0 B.c1 B.c2) rfl ?_
   exact ⟨rfl, E⟩
theorem boxQ (w : World) (a0 a1 a2 b0 b1 b2 : Value) (t u : TypeId) :
  Box3 ((w.alloc (.cells #[a0, a1, a2] t)).alloc (.cells #[b0, b1, b2] u)) w.heap.size a0 a1 a2 ∧
  Box3 ((w.alloc (.cells #[a0, a1, a2] t)).alloc (.cells #[b0, b1, b2] u)) (w.heap.size + 1) b0 b1 b2 ∧
  Below w.heap.size w ((w.alloc (.cells #[a0, a1, a2] t)).alloc (.cells #[b0, b1, b2] u)) := by
 have B := (Box3.new w a0 a1 a2 t).alloc (.cells #[b0, b1, b2] u)
 have A := Box3.new (w.alloc (.cells #[a0, a1, a2] t)) b0 b1 b2 u
 rw [show (w.alloc (.cells #[a0, a1, a2] t)).heap.size = w.heap.size + 1 by simp] at A
 exact ⟨B, A, ((Below.refl _ w).alloc (Nat.le_refl _) _).alloc (by simp) _⟩
@[irreducible] def bigZ : Int := ((18446744073709551616 ^ 6400 : Nat) : Int)
def Pl (x : Int) (b : Int) (s : Bool) (l : List Nat) : Prop :=
 (b = 0 ∧ Nm x s l ∧ -bigZ < x ∧ x < bigZ) ∨ (b = 1 ∧ s = false ∧ l = [] ∧ x = bigZ) ∨ (b = -1 ∧ s = false ∧ l = [] ∧ x = -bigZ)
theorem powN_pos (n : Nat) : (0 : Int) < ((18446744073709551616 ^ n : Nat) : Int) := Int.natCast_pos.2 (Nat.pow_pos (by decide))
theorem powN_le {n k : Nat} (h : k < 18446744073709551616 ^ m) (hm : m ≤ n) : (k : Int) < ((18446744073709551616 ^ n : Nat) : Int) := Int.ofNat_lt.2 (Nat.lt_of_lt_of_le h (Nat.pow_le_pow_right (by decide) hm))
theorem bigZ_pos : 0 < bigZ := by unfold bigZ; exact powN_pos 6400
theorem lt_big {k : Nat} (h : k < 18446744073709551616 ^ m) (hm : m ≤ 6400) : (k : Int) < bigZ := by unfold bigZ; exact powN_le (n := 6400) h hm
def cmpP (b d x y : Int) : Int := bif b == d then sgn (x - y) else b - d
theorem cmpP_le {d : Int} {l k : List Nat} (h : Pl x b s l) (h2 : Pl y d t k) : (cmpP b d x y ≤ 0 ↔ x ≤ y) ∧ (0 ≤ cmpP b d x y ↔ y ≤ x) := by
 have B := bigZ_pos
 have A : ∀ z : Int, (sgn z ≤ 0 ↔ z ≤ 0) ∧ (0 ≤ sgn z ↔ 0 ≤ z) := fun z => by unfold sgn; split <;> (try split) <;> omega
 have A := A (x - y)
 unfold cmpP
 rcases h with ⟨rfl, _, h3, h4⟩ | ⟨rfl, _, _, h3⟩ | ⟨rfl, _, _, h3⟩ <;> rcases h2 with ⟨rfl, _, h5, h6⟩ | ⟨rfl, _, _, h5⟩ | ⟨rfl, _, _, h5⟩ <;> simp <;> omega
theorem icompare_p {w : World} {d g : Int} {l k : List Nat} {e : Nat} (h1 : Pl x b s l) (h2 : Pl y d t k) (hu : U64s w Z A c l) (hv : U64s w Y B e k) (hl : l.length ≤ 9000) (hl2 : k.length ≤ 9000) (hg : cmpP b d x y = g) :
  Calls Tryz.prog 35 #[.agg #[.int .i64 b, .bool s, .slice A l.length c], .agg #[.int .i64 d, .bool t, .slice B k.length e]] w fun e w' => e = .returned (.int .i64 g) ∧ Below w.heap.size w w' := by
 have I : b = -1 ∨ b = 0 ∨ b = 1 := by rcases h1 with ⟨rfl, _⟩ | ⟨rfl, _⟩ | ⟨rfl, _⟩ <;> simp
 have J : d = -1 ∨ d = 0 ∨ d = 1 := by rcases h2 with ⟨rfl, _⟩ | ⟨rfl, _⟩ | ⟨rfl, _⟩ <;> simp
 obtain ⟨M, N, C⟩ := boxQ w (.int .i64 b) (.bool s) (.slice A l.length c) (.int .i64 d) (.bool t) (.slice B k.length e) 93 93
 have K := hid C
 by_cases hbd : b = d
 · subst hbd
   have P : ∃ G H, Nm G s l ∧ Nm H t k ∧ sgn (G - H) = g := by
    have F : cmpP b b x y = sgn (x - y) := by simp [cmpP]
    rw [F] at hg
    have D : Nm 0 false [] := ⟨rfl, rfl⟩
    rcases h1 with ⟨rfl, n1, _⟩ | ⟨rfl, rfl, rfl, hx⟩ | ⟨rfl, rfl, rfl, hx⟩
    · rcases h2 with ⟨_, E, _⟩ | ⟨h, _⟩ | ⟨h, _⟩
      · exact ⟨x, y, n1, E, hg⟩
      · omega
      · omega
    · rcases h2 with ⟨h, _⟩ | ⟨_, rfl, rfl, hy⟩ | ⟨h, _⟩
      · omega
      · exact ⟨0, 0, D, D, by rw [← hg, hx, hy]; simp⟩
      · omega
    · rcases h2 with ⟨h, _⟩ | ⟨h, _⟩ | ⟨_, rfl, rfl, hy⟩
      · omega
      · omega
      · exact ⟨0, 0, D, D, by rw [← hg, hx, hy]; simp⟩
   obtain ⟨G, H, n1, E, O⟩ := P
   have L := cmp_n (w := ((w.alloc (.cells #[.int .i64 b, .bool s, .slice A l.length c] 93)).alloc (.cells #[.int .i64 b, .bool t, .slice B k.length e] 93))) n1 E O (by omega) (by omega) (hu.below C) (hv.below C)
   have Q := hid L
   obtain ⟨R, S, T, _⟩ := M
   obtain ⟨U, V, W, _⟩ := N
   clear L hu hv hl hl2 hg O n1 E h1 h2 I J C
   go_enter Tryz.func35, Tryz.ntmps35
   go_wp2_with fail
   refine Q.out.mono ?_
   rintro e a ⟨rfl, X⟩
   go_wp2
   go_ret
   exact ⟨rfl, from_ K.out X⟩
 · have F : g = b - d := by rw [← hg]; unfold cmpP; rw [beq_false_of_ne hbd]; rfl
   subst F
   obtain ⟨R, S, T, _⟩ := M
   obtain ⟨U, V, W, _⟩ := N
   clear hu hv hl hl2 hg h1 h2 C
   rcases I with rfl | rfl | rfl <;> rcases J with rfl | rfl | rfl <;> first
    | exact absurd rfl hbd
    | (clear hbd
       go_enter Tryz.func35, Tryz.ntmps35
       go_wp2
       go_ret
       exact ⟨rfl, K.out⟩)
theorem clone_w {w : World} {l : List Nat} (ha : U64s w Z A c l) (hb : l.length ≤ 1000000000000) :
  Calls Tryz.prog 108 #[.slice A l.length c] w fun e w' => ∃ A' c', e = .returned (.slice A' l.length c') ∧ U64s w' (new w.heap.size) A' c' l ∧ Below w.heap.size w w' := by
 refine (clone_any rfl ha hb).mono ?_
 rintro e w' ⟨v, rfl, B, hb⟩
 obtain ⟨A', c', rfl⟩ := own_shape B
 exact ⟨A', c', rfl, isU_after ha.small rfl B (Nat.le_refl _), hb⟩
theorem boxR (w : World) (a0 a1 b0 b1 b2 : Value) (t u : TypeId) :
  Box ((w.alloc (.cells #[a0, a1] t)).alloc (.cells #[b0, b1, b2] u)) w.heap.size a0 a1 ∧
  Box3 ((w.alloc (.cells #[a0, a1] t)).alloc (.cells #[b0, b1, b2] u)) (w.heap.size + 1) b0 b1 b2 ∧
  Below w.heap.size w ((w.alloc (.cells #[a0, a1] t)).alloc (.cells #[b0, b1, b2] u)) := by
 have B := (Box.new w a0 a1 t).alloc (.cells #[b0, b1, b2] u)
 have A := Box3.new (w.alloc (.cells #[a0, a1] t)) b0 b1 b2 u
 rw [show (w.alloc (.cells #[a0, a1] t)).heap.size = w.heap.size + 1 by simp] at A
 exact ⟨B, A, ((Below.refl _ w).alloc (Nat.le_refl _) _).alloc (by simp) _⟩
theorem st3 {w : World} {b k : Nat} {x y z : Value} (h : w.cell? ⟨g, i, none⟩ = some v) (hn : b ≠ g) : (((w.setCell ⟨b, j, none⟩ x).setCell ⟨b, k, none⟩ y).setCell ⟨b, m, none⟩ z).cell? ⟨g, i, none⟩ = some v := by
 rw [World.cell?_setCell_other _ _ _ _ (fun e => hn (by injection e)), World.cell?_setCell_other _ _ _ _ (fun e => hn (by injection e)), World.cell?_setCell_other _ _ _ _ (fun e => hn (by injection e))]
 exact h
theorem inone_p {w : World} :
  Calls Tryz.prog 176 #[] w fun e w' => e = .returned (.agg #[.bool true, .bool false, .slice none 0 0]) ∧ Below w.heap.size w w' := by
 obtain ⟨C, B⟩ := hid2 ((Below.refl _ w).alloc (Nat.le_refl _) (.cells #[.bool true, .bool false, .slice none 0 0] 37)) (Box3.new w (.bool true) (.bool false) (.slice none 0 0) 37)
 go_enter Tryz.func176, Tryz.ntmps176
 go_wp2
 refine bodyPost_ret (res_bound rfl _ w.heap.size rfl B.out.c0 B.out.c1 B.out.c2) rfl ?_
 exact ⟨rfl, C.out⟩
theorem iat_p {w : World} {l : List Nat} (u1 : U64s w Z A c l) (hl : l.length ≤ 100000000000) :
  Calls Tryz.prog 62 #[.agg #[.bool s, .slice A l.length c]] w fun e w' => ∃ Av cv, e = .returned (.agg #[.bool false, .bool s, .slice Av l.length cv]) ∧ U64s w' (new w.heap.size) Av cv l ∧ Below w.heap.size w w' := by
 obtain ⟨R, J, K⟩ := boxR w (.bool s) (.slice A l.length c) (.bool false) (.bool false) (.slice none 0 0) 35 37
 obtain ⟨L, M, _, _, _⟩ := R
 have D : Below w.heap.size w ((w.alloc (.cells #[.bool s, .slice A l.length c] 35)).alloc (.cells #[.bool false, .bool false, .slice none 0 0] 37)).drew := K.drew
 have E := J.below (W' := ((w.alloc (.cells #[.bool s, .slice A l.length c] 35)).alloc (.cells #[.bool false, .bool false, .slice none 0 0] 37)).drew) (bdr_)
 have O := (show ((w.alloc (.cells #[.bool s, .slice A l.length c] 35)).alloc (.cells #[.bool false, .bool false, .slice none 0 0] 37)).drew.cell? ⟨w.heap.size, 0, none⟩ = _ from L)
 have P := (show ((w.alloc (.cells #[.bool s, .slice A l.length c] 35)).alloc (.cells #[.bool false, .bool false, .slice none 0 0] 37)).drew.cell? ⟨w.heap.size, 1, none⟩ = _ from M)
 obtain ⟨S, N⟩ := hid2 (clone_w (u1.below D) (by omega)) D
 clear u1 K D J L M
 go_enter Tryz.func62, Tryz.ntmps62
 go_wp2
 go_region_held3 (fun w' => w'.cell? ⟨w.heap.size, 0, none⟩ = some (.bool s) ∧ w'.cell? ⟨w.heap.size, 1, none⟩ = some (.slice A l.length c))
  (first
   | (go_keep; done)
   | exact ⟨G, H⟩
   | exact ⟨st3 G (by omega), st3 H (by omega)⟩)
  (first
   | (go_at_call 108; with_reducible refine S.out.mono ?_; rintro e V ⟨T, c1, rfl, u1, B⟩; have G := keepC B O; have H := keepC B P; obtain ⟨W, X, Y, a, b, d, _⟩ := E.below B))
 all_goals
  have Q := from_ N.out B
  have F := (E.below B).put Q (by omega) (.bool false) (.bool s) (.slice T l.length c1)
  have I := F.keep (fun (h : _ ≤ w.heap.size + 1) => by have := E.lt; omega) u1
  obtain ⟨U, C⟩ := hid2 I F
  clear I F
  go_wp2
  refine bodyPost_ret (res_bound rfl _ (w.heap.size + 1) rfl C.out.c0 C.out.c1 C.out.c2) rfl ?_
  exact ⟨_, _, rfl, U.out.mono (new_le N.out.size), C.out.bel⟩
theorem ibound_p {w : World} {n : Bool} {l : List Nat} (h : Pl x b s l) (hn : (b != 0) = n) (u1 : U64s w Z A c l) (hl : l.length ≤ 100000000000) :
  Calls Tryz.prog 138 #[.agg #[.int .i64 b, .bool s, .slice A l.length c]] w fun e w' => ∃ Av cv, e = .returned (.agg #[.bool n, .bool s, .slice Av l.length cv]) ∧ U64s w' (new w.heap.size) Av cv l ∧ Below w.heap.size w w' := by
 obtain ⟨M, G, F⟩ := boxQ w (.int .i64 b) (.bool s) (.slice A l.length c) (.bool false) (.bool false) (.slice none 0 0) 93 37
 obtain ⟨Y, a, d, _, _, _, _⟩ := M
 obtain ⟨H, E⟩ := hid2 F G
 by_cases hb : b = 0
 · subst hb
   obtain rfl : n = false := by rw [← hn]; rfl
   have L := hid (iat_p (s := s) (u1.below F) hl)
   clear u1 F h hn G
   go_enter Tryz.func138, Tryz.ntmps138
   go_wp2_with fail
   refine L.out.mono ?_
   rintro e J ⟨Av, cv, rfl, K, C⟩
   have D := (E.out.below C).put (from_ H.out C) (by omega) (.bool false) (.bool s) (.slice Av l.length cv)
   have I := D.keep (fun (h : _ ≤ w.heap.size + 1) => by have := E.out.lt; omega) K
   obtain ⟨N, B⟩ := hid2 (I.mono (new_le H.out.size)) D
   obtain ⟨O, P, Q, R, S, T, _⟩ := E.out.below C
   clear K I D
   go_wp2
   refine bodyPost_ret (res_bound rfl _ (w.heap.size + 1) rfl B.out.c0 B.out.c1 B.out.c2) rfl ?_
   exact ⟨_, _, rfl, N.out, B.out.bel⟩
 · obtain rfl : n = true := by rw [← hn]; simp [hb]
   obtain ⟨rfl, rfl⟩ : s = false ∧ l = [] := by
    rcases h with ⟨h, _⟩ | ⟨_, h1, h2, _⟩ | ⟨_, h1, h2, _⟩
    · exact absurd h hb
    · exact ⟨h1, h2⟩
    · exact ⟨h1, h2⟩
   have W : (b == 0) = false := beq_false_of_ne hb
   have X : decide (b = 0) = false := decide_eq_false hb
   clear u1 F h hn G
   go_enter Tryz.func138, Tryz.ntmps138
   go_wp2_with fail
   refine (inone_p).mono ?_
   rintro e J ⟨rfl, C⟩
   have D := (E.out.below C).put (from_ H.out C) (by omega) (.bool true) (.bool false) (.slice none 0 0)
   have B := hid D
   obtain ⟨O, P, Q, R, S, T, _⟩ := E.out.below C
   clear D
   go_wp2
   refine bodyPost_ret (res_bound rfl _ (w.heap.size + 1) rfl B.out.c0 B.out.c1 B.out.c2) rfl ?_
   obtain ⟨Av, cv, U, V⟩ := IsU.nil (((J.setCell ⟨w.heap.size + 1, 0, none⟩ (.bool true)).setCell ⟨w.heap.size + 1, 1, none⟩ (.bool false)).setCell ⟨w.heap.size + 1, 2, none⟩ (.slice none 0 0)) (new w.heap.size)
   injection U with e1 e2 e3
   subst e1 e3
   exact ⟨_, _, rfl, V, B.out.bel⟩
def Pick (p : Bool) (b : Int) (s : Bool) (l : List Nat) (A : Option Addr) (c : Nat) (d : Int) (t : Bool) (k : List Nat) (B : Option Addr) (e : Nat) (rb : Int) (rs : Bool) (rl : List Nat) (rA : Option Addr) (rc : Nat) : Prop :=
 (p = true ∧ rb = b ∧ rs = s ∧ rl = l ∧ rA = A ∧ rc = c) ∨ (p = false ∧ rb = d ∧ rs = t ∧ rl = k ∧ rA = B ∧ rc = e)
theorem Pick.ex (p : Bool) (b : Int) (s : Bool) (l : List Nat) (A : Option Addr) (c : Nat) (d : Int) (t : Bool) (k : List Nat) (B : Option Addr) (e : Nat) : ∃ rb rs rl rA rc, Pick p b s l A c d t k B e rb rs rl rA rc := by
 cases p
 · exact ⟨_, _, _, _, _, Or.inr ⟨rfl, rfl, rfl, rfl, rfl, rfl⟩⟩
 · exact ⟨_, _, _, _, _, Or.inl ⟨rfl, rfl, rfl, rfl, rfl, rfl⟩⟩
theorem boxS (w : World) (a0 a1 a2 b0 b1 b2 r0 r1 r2 : Value) (t : TypeId) :
  Box3 (((w.alloc (.cells #[a0, a1, a2] t)).alloc (.cells #[b0, b1, b2] t)).alloc (.cells #[r0, r1, r2] t)) w.heap.size a0 a1 a2 ∧
  Box3 (((w.alloc (.cells #[a0, a1, a2] t)).alloc (.cells #[b0, b1, b2] t)).alloc (.cells #[r0, r1, r2] t)) (w.heap.size + 1) b0 b1 b2 ∧
  Box3 (((w.alloc (.cells #[a0, a1, a2] t)).alloc (.cells #[b0, b1, b2] t)).alloc (.cells #[r0, r1, r2] t)) (w.heap.size + 2) r0 r1 r2 ∧
  Below w.heap.size w (((w.alloc (.cells #[a0, a1, a2] t)).alloc (.cells #[b0, b1, b2] t)).alloc (.cells #[r0, r1, r2] t)) := by
 obtain ⟨B, C, D⟩ := boxQ w a0 a1 a2 b0 b1 b2 t t
 have A := Box3.new ((w.alloc (.cells #[a0, a1, a2] t)).alloc (.cells #[b0, b1, b2] t)) r0 r1 r2 t
 rw [show ((w.alloc (.cells #[a0, a1, a2] t)).alloc (.cells #[b0, b1, b2] t)).heap.size = w.heap.size + 2 by simp] at A
 exact ⟨B.alloc _, C.alloc _, A, D.alloc (by simp; omega) _⟩
theorem ileast_p {w : World} {d : Int} {l k : List Nat} {e : Nat} (h1 : Pl x b s l) (h2 : Pl y d t k) (hu : U64s w Z A c l) (hv : U64s w Y B e k) (hl : l.length ≤ 9000) (hl2 : k.length ≤ 9000) (hp : Pick (decide (x ≤ y)) b s l A c d t k B e rb rs rl rA rc) :
  Calls Tryz.prog 137 #[.agg #[.int .i64 b, .bool s, .slice A l.length c], .agg #[.int .i64 d, .bool t, .slice B k.length e]] w fun e w' => e = .returned (.agg #[.int .i64 rb, .bool rs, .slice rA rl.length rc]) ∧ Below w.heap.size w w' := by
 obtain ⟨J, K, L, F⟩ := boxS w (.int .i64 b) (.bool s) (.slice A l.length c) (.int .i64 d) (.bool t) (.slice B k.length e) (.int .i64 0) (.bool false) (.slice none 0 0) 93
 obtain ⟨O, P, G, M⟩ := hid4 J K L F
 obtain ⟨i, j, m, _, _, _, _⟩ := J
 obtain ⟨o, q, r, _, _, _, _⟩ := K
 obtain ⟨g, I⟩ : ∃ g, cmpP b d x y = g := ⟨_, rfl⟩
 have H := cmpP_le h1 h2
 rw [I] at H
 have N := hid (icompare_p h1 h2 (hu.below F) (hv.below F) hl hl2 I)
 clear hu hv F h1 h2 L I
 rcases hp with ⟨hc, rfl, rfl, rfl, rfl, rfl⟩ | ⟨hc, rfl, rfl, rfl, rfl, rfl⟩
 all_goals
  have h : decide (g ≤ 0) = _ := (decide_eq_decide.2 H.1).trans hc
  clear H hc
  go_enter Tryz.func137, Tryz.ntmps137
  go_wp2_with fail
  refine N.out.mono ?_
  rintro e u ⟨rfl, D⟩
 · have E := (G.out.below D).put (from_ M.out D) (by omega) (.int .i64 rb) (.bool rs) (.slice rA rl.length rc)
   have C := hid E
   obtain ⟨Q, R, S, T, U, V, _⟩ := G.out.below D
   obtain ⟨W, X, a, _⟩ := O.out.below D
   clear E
   go_wp2
   refine bodyPost_ret (res_place rfl _ (w.heap.size + 2) rfl C.out.c0 C.out.c1 C.out.c2) rfl ?_
   exact ⟨rfl, C.out.bel⟩
 · have E := (G.out.below D).put (from_ M.out D) (by omega) (.int .i64 rb) (.bool rs) (.slice rA rl.length rc)
   have C := hid E
   obtain ⟨Q, R, S, T, U, V, _⟩ := G.out.below D
   obtain ⟨W, X, a, _⟩ := P.out.below D
   clear E
   go_wp2
   refine bodyPost_ret (res_place rfl _ (w.heap.size + 2) rfl C.out.c0 C.out.c1 C.out.c2) rfl ?_
   exact ⟨rfl, C.out.bel⟩
theorem igreatest_p {w : World} {d : Int} {l k : List Nat} {e : Nat} (h1 : Pl x b s l) (h2 : Pl y d t k) (hu : U64s w Z A c l) (hv : U64s w Y B e k) (hl : l.length ≤ 9000) (hl2 : k.length ≤ 9000) (hp : Pick (decide (y ≤ x)) b s l A c d t k B e rb rs rl rA rc) :
  Calls Tryz.prog 136 #[.agg #[.int .i64 b, .bool s, .slice A l.length c], .agg #[.int .i64 d, .bool t, .slice B k.length e]] w fun e w' => e = .returned (.agg #[.int .i64 rb, .bool rs, .slice rA rl.length rc]) ∧ Below w.heap.size w w' := by
 obtain ⟨J, K, L, F⟩ := boxS w (.int .i64 b) (.bool s) (.slice A l.length c) (.int .i64 d) (.bool t) (.slice B k.length e) (.int .i64 0) (.bool false) (.slice none 0 0) 93
 obtain ⟨O, P, G, M⟩ := hid4 J K L F
 obtain ⟨i, j, m, _, _, _, _⟩ := J
 obtain ⟨o, q, r, _, _, _, _⟩ := K
 obtain ⟨g, I⟩ : ∃ g, cmpP b d x y = g := ⟨_, rfl⟩
 have H := cmpP_le h1 h2
 rw [I] at H
 have N := hid (icompare_p h1 h2 (hu.below F) (hv.below F) hl hl2 I)
 clear hu hv F h1 h2 L I
 rcases hp with ⟨hc, rfl, rfl, rfl, rfl, rfl⟩ | ⟨hc, rfl, rfl, rfl, rfl, rfl⟩
 all_goals
  have h : decide (0 ≤ g) = _ := (decide_eq_decide.2 H.2).trans hc
  clear H hc
  go_enter Tryz.func136, Tryz.ntmps136
  go_wp2_with fail
  refine N.out.mono ?_
  rintro e u ⟨rfl, D⟩
 · have E := (G.out.below D).put (from_ M.out D) (by omega) (.int .i64 rb) (.bool rs) (.slice rA rl.length rc)
   have C := hid E
   obtain ⟨Q, R, S, T, U, V, _⟩ := G.out.below D
   obtain ⟨W, X, a, _⟩ := O.out.below D
   clear E
   go_wp2
   refine bodyPost_ret (res_place rfl _ (w.heap.size + 2) rfl C.out.c0 C.out.c1 C.out.c2) rfl ?_
   exact ⟨rfl, C.out.bel⟩
 · have E := (G.out.below D).put (from_ M.out D) (by omega) (.int .i64 rb) (.bool rs) (.slice rA rl.length rc)
   have C := hid E
   obtain ⟨Q, R, S, T, U, V, _⟩ := G.out.below D
   obtain ⟨W, X, a, _⟩ := P.out.below D
   clear E
   go_wp2
   refine bodyPost_ret (res_place rfl _ (w.heap.size + 2) rfl C.out.c0 C.out.c1 C.out.c2) rfl ?_
   exact ⟨rfl, C.out.bel⟩
structure Iv where
 n0 : Bool
 s0 : Bool
 l0 : List Nat
 n1 : Bool
 s1 : Bool
 l1 : List Nat
def Iv.ok (p : Iv) : Bool := okA p.n0 p.s0 p.l0 p.n1 p.s1 p.l1
def Iv.short (p : Iv) : Prop := p.l0.length ≤ 9000 ∧ p.l1.length ≤ 9000
def GivenA (w : World) (g : Nat) (ps : List Iv) : Prop :=
 ∀ j (h : j < ps.length), ∃ A c B d, w.cell? ⟨g, j * 6, none⟩ = some (.bool ps[j].n0) ∧ w.cell? ⟨g, j * 6 + 1, none⟩ = some (.bool ps[j].s0) ∧ w.cell? ⟨g, j * 6 + 2, none⟩ = some (.slice A ps[j].l0.length c) ∧ w.cell? ⟨g, j * 6 + 3, none⟩ = some (.bool ps[j].n1) ∧ w.cell? ⟨g, j * 6 + 4, none⟩ = some (.bool ps[j].s1) ∧ w.cell? ⟨g, j * 6 + 5, none⟩ = some (.slice B ps[j].l1.length d) ∧ U64s w old A c ps[j].l0 ∧ U64s w old B d ps[j].l1
theorem GivenA.below {w : World} {ps : List Iv} (h : GivenA w g ps) (hb : Below w.heap.size w w') : GivenA w' g ps := fun j hj => by
 obtain ⟨A, c, B, d, C, D, E, F, G, H, I, J⟩ := h j hj
 exact ⟨A, c, B, d, keepC hb C, keepC hb D, keepC hb E, keepC hb F, keepC hb G, keepC hb H, I.below hb, J.below hb⟩
def errAs (ps : List Iv) : Int := if ps.all Iv.ok = true then 0 else 8
theorem errAs_two (p q : Iv) : errAs [p, q] = if p.ok = true ∧ q.ok = true then 0 else 8 := by simp [errAs]
theorem given_twoA {w : World} {Y2 : Zone} {p q : Iv} {a b d : Nat} {ty : TypeId} (h1 : U64s w Z A a p.l0) (h2 : U64s w Y B b p.l1) (h3 : U64s w Z2 C c q.l0) (h4 : U64s w Y2 D d q.l1) :
  GivenA (w.alloc (.cells #[.bool p.n0, .bool p.s0, .slice A p.l0.length a, .bool p.n1, .bool p.s1, .slice B p.l1.length b, .bool q.n0, .bool q.s0, .slice C q.l0.length c, .bool q.n1, .bool q.s1, .slice D q.l1.length d] ty)) w.heap.size [p, q] := fun j hj => by
 have E : Below w.heap.size w (w.alloc (.cells #[.bool p.n0, .bool p.s0, .slice A p.l0.length a, .bool p.n1, .bool p.s1, .slice B p.l1.length b, .bool q.n0, .bool q.s0, .slice C q.l0.length c, .bool q.n1, .bool q.s1, .slice D q.l1.length d] ty)) := (Below.refl _ w).alloc (Nat.le_refl _) _
 match j, hj with
 | 0, _ => exact ⟨A, a, B, b, cell_newest rfl rfl, cell_newest rfl rfl, cell_newest rfl rfl, cell_newest rfl rfl, cell_newest rfl rfl, cell_newest rfl rfl, (h1.below E).mono (le_old _), (h2.below E).mono (le_old _)⟩
 | 1, _ => exact ⟨C, c, D, d, cell_newest rfl rfl, cell_newest rfl rfl, cell_newest rfl rfl, cell_newest rfl rfl, cell_newest rfl rfl, cell_newest rfl rfl, (h3.below E).mono (le_old _), (h4.below E).mono (le_old _)⟩
theorem ichecked_any {w : World} {n : Nat} {ps : List Iv} (h : GivenA w g ps) (hn : n = ps.length) (hl : ps.length ≤ 1000) (hsh : ∀ p ∈ ps, p.short) :
  Calls Tryz.prog 34 #[.slice (some ⟨g, 0, none⟩) n c] w fun e w' => e = .returned (.int .i64 (errAs ps)) ∧ Below w.heap.size w w' := by
 subst hn
 have V := hid hsh
 clear hsh
 go_enter Tryz.func34, Tryz.ntmps34
 go_wp2
 go_loopw [8] (fun i wr => ∃ k : Nat, k ≤ ps.length ∧ i = .int .i64 k ∧ Below w.heap.size w wr ∧ Hid (∀ j (E : j < ps.length), j < k → ps[j].ok = true)) (fun i _ => ps.length - (intOf i).toNat)
 case atStart => exact ⟨0, Nat.zero_le _, rfl, Below.refl _ _, fun j E h => absurd h (by omega)⟩
 case round =>
  obtain ⟨k, a, rfl, F, J⟩ := hrel
  by_cases hlt : k < ps.length
  · obtain ⟨A, R, B, S, b, K, d, m, o, q, T, U⟩ := (h.below F) k hlt
    have G := V.out ps[k] (List.getElem_mem hlt)
    have O : Below w.heap.size w (wr.alloc (.cells #[.bool ps[k].n0, .bool ps[k].s0, .slice A ps[k].l0.length R, .bool ps[k].n1, .bool ps[k].s1, .slice B ps[k].l1.length S] 39)) := F.alloc F.size _
    have H : Below wr.heap.size wr (wr.alloc (.cells #[.bool ps[k].n0, .bool ps[k].s0, .slice A ps[k].l0.length R, .bool ps[k].n1, .bool ps[k].s1, .slice B ps[k].l1.length S] 39)) := (Below.refl _ wr).alloc (Nat.le_refl _) _
    have D := icheck_any (n0 := ps[k].n0) (s0 := ps[k].s0) (n1 := ps[k].n1) (s1 := ps[k].s1) (T.below H) (U.below H) G.1 G.2
    have C : ps[k].ok = true ∨ ps[k].ok = false := by cases ps[k].ok <;> simp
    have W : Hid (ps[k].ok = true → ∀ j (E : j < ps.length), j < k + 1 → ps[j].ok = true) := fun hx j E hjk => by
     rcases Nat.lt_or_ge j k with K | K
     · exact J.out j E K
     · obtain rfl : j = k := by omega
       exact hx
    have X : Hid (ps[k].ok = false → errAs ps = 8) := fun hx => by
     unfold errAs
     rw [if_neg]
     intro hall
     have := List.all_eq_true.1 hall ps[k] (List.getElem_mem hlt)
     rw [this] at hx
     cases hx
    clear T U J H G
    unfold Iv.ok at C
    unfold errA at D
    have P : Hid (ps[k].ok = okA ps[k].n0 ps[k].s0 ps[k].l0 ps[k].n1 ps[k].s1 ps[k].l1) := rfl
    generalize hp : ps[k] = p at *
    obtain ⟨n0, s0, l0, n1, s1, l1⟩ := p
    dsimp only at *
    rcases C with C | C
    · rw [if_pos C] at D
      obtain ⟨L, M⟩ := hid2 D C
      clear D C hp
      go_wp2_with fail
      refine L.out.mono ?_
      rintro e Z ⟨rfl, N⟩
      have I := from_ O N
      go_wp2
      go_roundw
      case rel => exact ⟨k + 1, by omega, by go_num, I, hid (W.out (P.out.trans M.out))⟩
      case measure => simp [intOf]; omega
    · rw [if_neg (by rw [C]; simp)] at D
      obtain ⟨L, M⟩ := hid2 D C
      clear D C hp
      go_wp2_with fail
      refine L.out.mono ?_
      rintro e Z ⟨rfl, N⟩
      have I := from_ O N
      go_wp2
      go_ret
      rw [X.out (P.out.trans M.out)]
      exact ⟨rfl, I⟩
  · obtain rfl : k = ps.length := by omega
    have Q : errAs ps = 0 := by
     unfold errAs
     rw [if_pos]
     rw [List.all_eq_true]
     intro p hp
     obtain ⟨j, E, rfl⟩ := List.getElem_of_mem hp
     exact J.out j E E
    have Y := hid Q
    clear Q
    go_wp2
    go_ret
    rw [Y.out]
    exact ⟨rfl, F⟩
def loV (n s : Bool) (l : List Nat) : Int := bif n then -bigZ else zof s l
def hiV (n s : Bool) (l : List Nat) : Int := bif n then bigZ else zof s l
theorem zof_big {l : List Nat} (hs : Small l) (hl : l.length ≤ 6000) : -bigZ < zof s l ∧ zof s l < bigZ := by
 have A := val_lt hs
 have B : (val l : Int) < bigZ := lt_big A (by omega)
 unfold zof
 split <;> omega
theorem Plc.lo {n : Bool} {l : List Nat} (h : Plc (-1) n s l A c b s' l' A' c') (hk : okE n s l = true) (hs : Small l) (hl : l.length ≤ 6000) : Pl (loV n s l) b s' l' := by
 rcases h with ⟨rfl, rfl, rfl, rfl, rfl, rfl⟩ | ⟨rfl, rfl, rfl, rfl, rfl, rfl⟩
 · exact Or.inr (Or.inr ⟨rfl, rfl, rfl, rfl⟩)
 · exact Or.inl ⟨rfl, Nm.ok hk hs, zof_big hs hl⟩
theorem Plc.hi {n : Bool} {l : List Nat} (h : Plc 1 n s l A c b s' l' A' c') (hk : okE n s l = true) (hs : Small l) (hl : l.length ≤ 6000) : Pl (hiV n s l) b s' l' := by
 rcases h with ⟨rfl, rfl, rfl, rfl, rfl, rfl⟩ | ⟨rfl, rfl, rfl, rfl, rfl, rfl⟩
 · exact Or.inr (Or.inl ⟨rfl, rfl, rfl, rfl⟩)
 · exact Or.inl ⟨rfl, Nm.ok hk hs, zof_big hs hl⟩
theorem Plc.u64s {k : Int} {n : Bool} {l : List Nat} {w : World} (h : Plc k n s l A c b s' l' A' c') (hu : U64s w Z A c l) : U64s w Z A' c' l' := by
 rcases h with ⟨rfl, rfl, rfl, rfl, rfl, rfl⟩ | ⟨rfl, rfl, rfl, rfl, rfl, rfl⟩
 · exact U64s.nil _ _
 · exact hu
theorem Plc.len {k : Int} {n : Bool} {l : List Nat} (h : Plc k n s l A c b s' l' A' c') : l'.length ≤ l.length := by
 rcases h with ⟨rfl, rfl, rfl, rfl, rfl, rfl⟩ | ⟨rfl, rfl, rfl, rfl, rfl, rfl⟩ <;> simp
theorem boxT (w : World) (a0 a1 a2 a3 a4 a5 b0 b1 b2 b3 b4 b5 : Value) (t : TypeId) :
  Box6 ((w.alloc (.cells #[a0, a1, a2, a3, a4, a5] t)).alloc (.cells #[b0, b1, b2, b3, b4, b5] t)) w.heap.size a0 a1 a2 a3 a4 a5 ∧
  Box6 ((w.alloc (.cells #[a0, a1, a2, a3, a4, a5] t)).alloc (.cells #[b0, b1, b2, b3, b4, b5] t)) (w.heap.size + 1) b0 b1 b2 b3 b4 b5 ∧
  Below w.heap.size w ((w.alloc (.cells #[a0, a1, a2, a3, a4, a5] t)).alloc (.cells #[b0, b1, b2, b3, b4, b5] t)) := by
 have B := (Box6.new w a0 a1 a2 a3 a4 a5 t).alloc (.cells #[b0, b1, b2, b3, b4, b5] t)
 have A := Box6.new (w.alloc (.cells #[a0, a1, a2, a3, a4, a5] t)) b0 b1 b2 b3 b4 b5 t
 rw [show (w.alloc (.cells #[a0, a1, a2, a3, a4, a5] t)).heap.size = w.heap.size + 1 by simp] at A
 exact ⟨B, A, ((Below.refl _ w).alloc (Nat.le_refl _) _).alloc (by simp) _⟩
theorem boxT_keep 
  (hs : D6 W g a0 a1 a2 a3 a4 a5 (C6 W h b0 b1 b2 b3 b4 b5)) (hb : Below W.heap.size W W') :
  D6 W' g a0 a1 a2 a3 a4 a5 (C6 W' h b0 b1 b2 b3 b4 b5) := by
 obtain ⟨A, B, C, D, E, F, G, H, I, J, K, L⟩ := hs
 exact ⟨keepC hb A, keepC hb B, keepC hb C, keepC hb D, keepC hb E, keepC hb F, keepC hb G, keepC hb H, keepC hb I, keepC hb J, keepC hb K, keepC hb L⟩
theorem boxT_of (h1 : Box6 W g a0 a1 a2 a3 a4 a5) (h2 : Box6 W h b0 b1 b2 b3 b4 b5) :
  D6 W g a0 a1 a2 a3 a4 a5 (C6 W h b0 b1 b2 b3 b4 b5) :=
 ⟨h1.c0, h1.c1, h1.c2, h1.c3, h1.c4, h1.c5, h2.c0, h2.c1, h2.c2, h2.c3, h2.c4, h2.c5⟩
theorem okA_ends {n1 : Bool} (h : okA n0 s0 l0 n1 s1 l1 = true) : okE n0 s0 l0 = true ∧ okE n1 s1 l1 = true := by
 unfold okA at h
 simp only [Bool.and_eq_true] at h
 exact ⟨h.1, h.2.1⟩
theorem iin_good {w : World} {n1 : Bool} {a b d : Nat}
  (u1 : U64s w Z1 A a l0) (u2 : U64s w Z2 B b l1) (u3 : U64s w Z3 C c k0) (u4 : U64s w Z4 D d k1) (h1 : okA n0 s0 l0 n1 s1 l1 = true) (h2 : okA m0 t0 k0 m1 t1 k1 = true)
  (q1 : l0.length ≤ 6000) (q2 : l1.length ≤ 6000) (q3 : k0.length ≤ 6000) (q4 : k1.length ≤ 6000) {r : Bool} (hr : decide (loV m0 t0 k0 ≤ loV n0 s0 l0 ∧ hiV n1 s1 l1 ≤ hiV m1 t1 k1) = r) :
  Calls Tryz.prog 10 #[.agg #[.bool n0, .bool s0, .slice A l0.length a, .bool n1, .bool s1, .slice B l1.length b], .agg #[.bool m0, .bool t0, .slice C k0.length c, .bool m1, .bool t1, .slice D k1.length d]] w fun e w' => e = .returned (.tuple #[.bool r, .int .i64 0]) ∧ Below w.heap.size w w' := by
 obtain ⟨bA, bB, H⟩ := boxT w (.bool n0) (.bool s0) (.slice A l0.length a) (.bool n1) (.bool s1) (.slice B l1.length b) (.bool m0) (.bool t0) (.slice C k0.length c) (.bool m1) (.bool t1) (.slice D k1.length d) 39
 have Ka := H.alloc H.size (.cells #[.bool n0, .bool s0, .slice A l0.length a, .bool n1, .bool s1, .slice B l1.length b, .bool m0, .bool t0, .slice C k0.length c, .bool m1, .bool t1, .slice D k1.length d] 39)
 have O := given_twoA (p := ⟨n0, s0, l0, n1, s1, l1⟩) (q := ⟨m0, t0, k0, m1, t1, k1⟩) (ty := 39) (u1.below H) (u2.below H) (u3.below H) (u4.below H)
 rw [show ((w.alloc (.cells #[.bool n0, .bool s0, .slice A l0.length a, .bool n1, .bool s1, .slice B l1.length b] 39)).alloc (.cells #[.bool m0, .bool t0, .slice C k0.length c, .bool m1, .bool t1, .slice D k1.length d] 39)).heap.size = w.heap.size + 2 by simp] at O
 have P := ichecked_any (n := 2) (c := 2) O rfl (by simp) (by intro p hp; simp only [List.mem_cons, List.not_mem_nil, or_false] at hp; rcases hp with rfl | rfl <;> exact ⟨by dsimp only; omega, by dsimp only; omega⟩)
 rw [errAs_two, if_pos ⟨h1, h2⟩] at P
 obtain ⟨Kd, Ke⟩ := okA_ends h1
 obtain ⟨Kf, Kg⟩ := okA_ends h2
 obtain ⟨x1, Kj, Kk, Kl, Km, I⟩ := Plc.ex (-1) n0 s0 l0 A a
 obtain ⟨x2, Kn, Ko, Kp, Kq, J⟩ := Plc.ex 1 n1 s1 l1 B b
 obtain ⟨x3, Kr, Ks, Kt, Kv, K⟩ := Plc.ex (-1) m0 t0 k0 C c
 obtain ⟨x4, Kw, Kx, Ky, Kz, L⟩ := Plc.ex 1 m1 t1 k1 D d
 have Q := I.lo Kd u1.small q1
 have R := J.hi Ke u2.small q2
 have S := K.lo Kf u3.small q3
 have T := L.hi Kg u4.small q4
 have r1 := I.len
 have r2 := J.len
 have r3 := K.len
 have r4 := L.len
 have v1 := I.u64s u1
 have v2 := J.u64s u2
 have v3 := K.u64s u3
 have v4 := L.u64s u4
 obtain ⟨g1, X⟩ : ∃ g, cmpP x3 x1 (loV m0 t0 k0) (loV n0 s0 l0) = g := ⟨_, rfl⟩
 obtain ⟨g2, Y⟩ : ∃ g, cmpP x2 x4 (hiV n1 s1 l1) (hiV m1 t1 k1) = g := ⟨_, rfl⟩
 have U := (cmpP_le S Q).1
 have V := (cmpP_le R T).1
 rw [X] at U
 rw [Y] at V
 obtain ⟨L1, L2, L3, L4, C1, C2⟩ := hid6 (fun (W : World) => ilow_p (w := W) (v3 := .bool n1) (v4 := .bool s1) (v5 := .slice B l1.length b) I) (fun (W : World) => ihigh_p (w := W) (v3 := .bool n0) (v4 := .bool s0) (v5 := .slice A l0.length a) J) (fun (W : World) => ilow_p (w := W) (v3 := .bool m1) (v4 := .bool t1) (v5 := .slice D k1.length d) K) (fun (W : World) => ihigh_p (w := W) (v3 := .bool m0) (v4 := .bool t0) (v5 := .slice C k0.length c) L) (fun (W : World) (h : Below w.heap.size w W) => icompare_p S Q (v3.below h) (v1.below h) (by omega) (by omega) X) (fun (W : World) (h : Below w.heap.size w W) => icompare_p R T (v2.below h) (v4.below h) (by omega) (by omega) Y)
 obtain ⟨Kh, Ki, HA, HB⟩ := hid4 P Ka (bA.alloc (.cells #[.bool n0, .bool s0, .slice A l0.length a, .bool n1, .bool s1, .slice B l1.length b, .bool m0, .bool t0, .slice C k0.length c, .bool m1, .bool t1, .slice D k1.length d] 39)) (bB.alloc (.cells #[.bool n0, .bool s0, .slice A l0.length a, .bool n1, .bool s1, .slice B l1.length b, .bool m0, .bool t0, .slice C k0.length c, .bool m1, .bool t1, .slice D k1.length d] 39))
 obtain ⟨Z, i, j, m, o, s, _, _, _, _, _, _, _⟩ := bA
 obtain ⟨u, v, x, y, z, b5, _, _, _, _, _, _, _⟩ := bB
 have Kb : decide (g1 ≤ 0) = decide (loV m0 t0 k0 ≤ loV n0 s0 l0) := decide_eq_decide.2 U
 have Kc : decide (g2 ≤ 0) = decide (hiV n1 s1 l1 ≤ hiV m1 t1 k1) := decide_eq_decide.2 V
 rw [Bool.decide_and, ← Kb, ← Kc] at hr
 clear P Ka H u1 u2 u3 u4 h1 h2 Kd Ke Kf Kg I J K L Q R S T r1 r2 r3 r4 v1 v2 v3 v4 X Y U V Kb Kc O q1 q2 q3 q4
 cases hc1 : decide (g1 ≤ 0) with
 | false =>
   rw [hc1] at hr
   obtain rfl : r = false := by rw [← hr]; rfl
   have Hr := hid hr
   clear hr
   go_enter Tryz.func10, Tryz.ntmps10
   go_wp2_with fail
   refine Kh.out.mono ?_
   rintro e w1 ⟨rfl, M⟩
   have E := hid (from_ Ki.out M).drew
   have G := boxT_keep (boxT_of HA.out HB.out) (M.drew)
   clear Z i j m o s u v x y z b5
   go_wp2
   (first | go_region_with (first
    | (go_at_call 36; (first | (with_reducible refine (L1.out _).mono ?_) | (with_reducible refine (L3.out _).mono ?_)); rintro e N ⟨rfl, F⟩; have G := boxT_keep G F; obtain ⟨Z, i, j, m, o, s, u, v, x, y, z, b5⟩ := id G; have E := hid (from_ E.out F))
    | (go_at_call 35; (first | (with_reducible refine (C1.out _ E.out).mono ?_) | (with_reducible refine (C2.out _ E.out).mono ?_)); rintro e N ⟨rfl, F⟩; have G := boxT_keep G F; have E := hid (from_ E.out F))) | fail)
   all_goals
    go_wp2
    go_ret2
    exact ⟨rfl, E.out⟩
 | true =>
   rw [hc1, Bool.true_and] at hr
   go_enter Tryz.func10, Tryz.ntmps10
   go_wp2_with fail
   refine Kh.out.mono ?_
   rintro e w1 ⟨rfl, M⟩
   have E := hid (from_ Ki.out M).drew
   have G := boxT_keep (boxT_of HA.out HB.out) (M.drew)
   clear Z i j m o s u v x y z b5
   go_wp2
   go_region_held3 (fun w' => D6 w' w.heap.size (.bool n0) (.bool s0) (.slice A l0.length a) (.bool n1) (.bool s1) (.slice B l1.length b) (C6 w' (w.heap.size + 1) (.bool m0) (.bool t0) (.slice C k0.length c) (.bool m1) (.bool t1) (.slice D k1.length d)))
    (first
     | (go_keep; done)
     | exact G)
    (first
     | (go_at_call 36; (first | (with_reducible refine (L1.out _).mono ?_) | (with_reducible refine (L3.out _).mono ?_)); rintro e N ⟨rfl, F⟩; have G := boxT_keep G F; have E := hid (from_ E.out F))
     | (go_at_call 37; (first | (with_reducible refine (L2.out _).mono ?_) | (with_reducible refine (L4.out _).mono ?_)); rintro e N ⟨rfl, F⟩; have G := boxT_keep G F; have E := hid (from_ E.out F))
     | (go_at_call 35; (first | (with_reducible refine (C1.out _ E.out).mono ?_) | (with_reducible refine (C2.out _ E.out).mono ?_)); rintro e N ⟨rfl, F⟩; have G := boxT_keep G F; have E := hid (from_ E.out F)))
   all_goals
    go_wp2
    go_ret2
    exact ⟨rfl, E.out⟩
theorem iin_bad {w : World} {n1 : Bool} {a b d : Nat}
  (u1 : U64s w Z1 A a l0) (u2 : U64s w Z2 B b l1) (u3 : U64s w Z3 C c k0) (u4 : U64s w Z4 D d k1) (q1 : l0.length ≤ 6000) (q2 : l1.length ≤ 6000) (q3 : k0.length ≤ 6000) (q4 : k1.length ≤ 6000) (hb : ¬ (okA n0 s0 l0 n1 s1 l1 = true ∧ okA m0 t0 k0 m1 t1 k1 = true)) :
  Calls Tryz.prog 10 #[.agg #[.bool n0, .bool s0, .slice A l0.length a, .bool n1, .bool s1, .slice B l1.length b], .agg #[.bool m0, .bool t0, .slice C k0.length c, .bool m1, .bool t1, .slice D k1.length d]] w fun e w' => e = .returned (.tuple #[.bool false, .int .i64 8]) ∧ Below w.heap.size w w' := by
 obtain ⟨I, J, E⟩ := boxT w (.bool n0) (.bool s0) (.slice A l0.length a) (.bool n1) (.bool s1) (.slice B l1.length b) (.bool m0) (.bool t0) (.slice C k0.length c) (.bool m1) (.bool t1) (.slice D k1.length d) 39
 have P := hid E
 have K := boxT_of I J
 have H := E.alloc E.size (.cells #[.bool n0, .bool s0, .slice A l0.length a, .bool n1, .bool s1, .slice B l1.length b, .bool m0, .bool t0, .slice C k0.length c, .bool m1, .bool t1, .slice D k1.length d] 39)
 have F := given_twoA (p := ⟨n0, s0, l0, n1, s1, l1⟩) (q := ⟨m0, t0, k0, m1, t1, k1⟩) (ty := 39) (u1.below E) (u2.below E) (u3.below E) (u4.below E)
 rw [show ((w.alloc (.cells #[.bool n0, .bool s0, .slice A l0.length a, .bool n1, .bool s1, .slice B l1.length b] 39)).alloc (.cells #[.bool m0, .bool t0, .slice C k0.length c, .bool m1, .bool t1, .slice D k1.length d] 39)).heap.size = w.heap.size + 2 by simp] at F
 have G := ichecked_any (n := 2) (c := 2) F rfl (by simp) (by intro p hp; simp only [List.mem_cons, List.not_mem_nil, or_false] at hp; rcases hp with rfl | rfl <;> exact ⟨by dsimp only; omega, by dsimp only; omega⟩)
 rw [errAs_two, if_neg (show ¬ (Iv.ok ⟨n0, s0, l0, n1, s1, l1⟩ = true ∧ Iv.ok ⟨m0, t0, k0, m1, t1, k1⟩ = true) from hb)] at G
 obtain ⟨M, N⟩ := hid2 G H
 clear G H F u1 u2 u3 u4 I J E hb
 obtain ⟨Q, R, S, T, U, V, W, X, Y, Z, g, h⟩ := id K
 go_enter Tryz.func10, Tryz.ntmps10
 go_wp2_with fail
 refine M.out.mono ?_
 rintro e i ⟨rfl, O⟩
 have L := hid (from_ N.out O)
 go_wp2
 go_ret2
 exact ⟨rfl, L.out⟩
theorem isame1_any {w : World} {n m : Bool} {l k : List Nat} {a b : Nat} (u : U64s w Z A a l) (v : U64s w Y B b k) :
  Calls Tryz.prog 41 #[.agg #[.bool n, .bool s, .slice A l.length a], .agg #[.bool m, .bool t, .slice B k.length b]] w fun e w' => e = .returned (.bool (decide (n = m ∧ s = t ∧ l = k))) ∧ Below w.heap.size w w' := by
 obtain ⟨I, J, D⟩ := boxQ w (.bool n) (.bool s) (.slice A l.length a) (.bool m) (.bool t) (.slice B k.length b) 37 37
 obtain ⟨G, E⟩ := hid2 D (wsame_any (a := .agg #[.bool s, .slice A l.length a]) (b := .agg #[.bool t, .slice B k.length b]) ⟨_, rfl, A, a, rfl, u.below D⟩ ⟨_, rfl, B, b, rfl, v.below D⟩)
 obtain ⟨N, O, P, _, _, _, _⟩ := I
 obtain ⟨Q, R, S, _, _, _, _⟩ := J
 clear u v D
 obtain ⟨r, C⟩ : ∃ r, decide (n = m ∧ s = t ∧ l = k) = r := ⟨_, rfl⟩
 rw [C]
 by_cases hn : n = m
 · have F : decide (s = t ∧ l = k) = r := by rw [← C]; exact decide_eq_decide.2 ⟨fun h => ⟨hn, h⟩, fun h => h.2⟩
   rw [F] at E
   subst hn
   clear C F
   cases r
   all_goals
    go_enter Tryz.func41, Tryz.ntmps41
    go_wp2_with fail
    refine E.out.mono ?_
    rintro e T ⟨rfl, K⟩
    have H := hid (from_ G.out K)
    go_wp2
    go_ret
    exact ⟨rfl, H.out⟩
 · obtain rfl : r = false := by rw [← C]; exact decide_eq_false (fun h => hn h.1)
   have L : (n == m) = false := beq_false_of_ne hn
   have M : decide (n = m) = false := decide_eq_false hn
   clear C E
   go_enter Tryz.func41, Tryz.ntmps41
   go_wp2
   go_ret
   exact ⟨rfl, G.out⟩
theorem isame_any {w : World} {n1 : Bool} {a b d : Nat}
  (u1 : U64s w Z1 A a l0) (u2 : U64s w Z2 B b l1) (u3 : U64s w Z3 C c k0) (u4 : U64s w Z4 D d k1) :
  Calls Tryz.prog 13 #[.agg #[.bool n0, .bool s0, .slice A l0.length a, .bool n1, .bool s1, .slice B l1.length b], .agg #[.bool m0, .bool t0, .slice C k0.length c, .bool m1, .bool t1, .slice D k1.length d]] w fun e w' => e = .returned (.bool (decide ((n0 = m0 ∧ s0 = t0 ∧ l0 = k0) ∧ n1 = m1 ∧ s1 = t1 ∧ l1 = k1))) ∧ Below w.heap.size w w' := by
 obtain ⟨Y, Z, g⟩ := boxT w (.bool n0) (.bool s0) (.slice A l0.length a) (.bool n1) (.bool s1) (.slice B l1.length b) (.bool m0) (.bool t0) (.slice C k0.length c) (.bool m1) (.bool t1) (.slice D k1.length d) 39
 have E := hid g
 have F := boxT_of Y Z
 obtain ⟨U, i⟩ := hid2 (fun (W : World) (h : Below w.heap.size w W) => isame1_any (n := n0) (s := s0) (m := m0) (t := t0) (u1.below h) (u3.below h)) (fun (W : World) (h : Below w.heap.size w W) => isame1_any (n := n1) (s := s1) (m := m1) (t := t1) (u2.below h) (u4.below h))
 obtain ⟨r, T⟩ : ∃ r, decide ((n0 = m0 ∧ s0 = t0 ∧ l0 = k0) ∧ n1 = m1 ∧ s1 = t1 ∧ l1 = k1) = r := ⟨_, rfl⟩
 rw [T]
 obtain ⟨p, V⟩ : ∃ p, decide (n0 = m0 ∧ s0 = t0 ∧ l0 = k0) = p := ⟨_, rfl⟩
 obtain ⟨q, X⟩ : ∃ q, decide (n1 = m1 ∧ s1 = t1 ∧ l1 = k1) = q := ⟨_, rfl⟩
 rw [V] at U
 rw [X] at i
 rw [Bool.decide_and, V, X] at T
 clear u1 u2 u3 u4 Y Z g V X
 cases p with
 | false =>
   obtain rfl : r = false := by rw [← T]; rfl
   clear T
   obtain ⟨H, I, J, K, L, M, N, O, P, Q, R, S⟩ := id F
   go_enter Tryz.func13, Tryz.ntmps13
   go_wp2_with fail
   refine (U.out _ E.out).mono ?_
   rintro e j ⟨rfl, G⟩
   have F := boxT_keep F G
   have E := hid (from_ E.out G)
   clear H I J K L M N O P Q R S
   obtain ⟨H, I, J, K, L, M, N, O, P, Q, R, S⟩ := id F
   go_wp2
   go_ret
   exact ⟨rfl, E.out⟩
 | true =>
   obtain rfl : q = r := by rw [← T, Bool.true_and]
   clear T
   cases q
   all_goals
    obtain ⟨H, I, J, K, L, M, N, O, P, Q, R, S⟩ := id F
    go_enter Tryz.func13, Tryz.ntmps13
    go_wp2_with fail
    refine (U.out _ E.out).mono ?_
    rintro e j ⟨rfl, G⟩
    have F := boxT_keep F G
    have E := hid (from_ E.out G)
    clear H I J K L M N O P Q R S
    obtain ⟨H, I, J, K, L, M, N, O, P, Q, R, S⟩ := id F
    go_wp2_with fail
    refine (i.out _ E.out).mono ?_
    rintro e j ⟨rfl, G⟩
    have F := boxT_keep F G
    have E := hid (from_ E.out G)
    clear H I J K L M N O P Q R S
    obtain ⟨H, I, J, K, L, M, N, O, P, Q, R, S⟩ := id F
    go_wp2
    go_ret
    exact ⟨rfl, E.out⟩
def Ext (B M x : Int) : Prop := x = B ∨ x = -B ∨ (-M < x ∧ x < M)
def lo4 (a b c d : Int) : Int := min (min a b) (min c d)
def hi4 (a b c d : Int) : Int := max (max a b) (max c d)
def plusE (B x y : Int) : Int := if x = -B ∨ y = -B then -B else if x = B ∨ y = B then B else x + y
def timesE (B x y : Int) : Int := if x = 0 ∨ y = 0 then 0 else if x = B ∨ x = -B ∨ y = B ∨ y = -B then (if (0 < x ↔ 0 < y) then B else -B) else x * y
def overE (B x y : Int) : Int := if y = B ∨ y = -B then 0 else if x = B ∨ x = -B then (if (0 < x ↔ 0 < y) then B else -B) else Int.tdiv x y
def downE (B x p : Int) : Int := if x = B ∨ x = -B then x else Int.fdiv x p
theorem Ext.neg {B : Int} (h : Ext B M x) : Ext B M (-x) := by unfold Ext at *; omega
theorem tdiv_bd (hx : -M < x ∧ x < M) : -M < Int.tdiv x y ∧ Int.tdiv x y < M := by
 have h : (Int.tdiv x y).natAbs = x.natAbs / y.natAbs := Int.natAbs_tdiv x y
 have A := Nat.div_le_self x.natAbs y.natAbs
 generalize x.natAbs / y.natAbs = r at *
 generalize Int.tdiv x y = q at *
 omega
theorem fdiv_bd {p : Int} (hx : -M < x ∧ x < M) (hp : 0 < p) : -M < Int.fdiv x p ∧ Int.fdiv x p < M := by
 rw [Int.fdiv_eq_ediv_of_nonneg _ (by omega)]
 have A := Int.ediv_mul_le x (show p ≠ 0 by omega)
 have B := Int.lt_ediv_add_one_mul_self x hp
 rcases Int.le_total 0 x with h | h
 · have := Int.ediv_nonneg h (show 0 ≤ p by omega)
   have := Int.ediv_le_self p h
   omega
 · have C : x ≤ x / p := by
    rw [Int.le_ediv_iff_mul_le hp]
    have := Int.mul_le_mul_of_nonpos_left h (show 1 ≤ p by omega)
    omega
   have D : x / p ≤ 0 := by
    have := Int.ediv_le_ediv hp h
    rw [Int.zero_ediv] at this
    exact this
   omega
def nLo (x : Int) : Bool := decide (x = -bigZ)
def nHi (x : Int) : Bool := decide (x = bigZ)
def sE (x : Int) : Bool := decide (-bigZ < x ∧ x < 0)
def lE (x : Int) : List Nat := if -bigZ < x ∧ x < bigZ then limbs x.natAbs else []
def bE (x : Int) : Int := if x = bigZ then 1 else if x = -bigZ then -1 else 0
theorem Pl.range {l : List Nat} (h : Pl x b s l) : -bigZ ≤ x ∧ x ≤ bigZ := by
 have := bigZ_pos
 rcases h with ⟨_, _, h1, h2⟩ | ⟨_, _, _, h⟩ | ⟨_, _, _, h⟩ <;> omega
theorem Pl.all (h : -bigZ ≤ x ∧ x ≤ bigZ) : Pl x (bE x) (sE x) (lE x) := by
 have := bigZ_pos
 unfold bE sE lE
 by_cases h1 : x = bigZ
 · rw [if_pos h1, if_neg (by omega)]
   exact Or.inr (Or.inl ⟨rfl, decide_eq_false (by omega), rfl, h1⟩)
 · by_cases h2 : x = -bigZ
   · rw [if_neg h1, if_pos h2, if_neg (by omega)]
     exact Or.inr (Or.inr ⟨rfl, decide_eq_false (by omega), rfl, h2⟩)
   · rw [if_neg h1, if_neg h2, if_pos (by omega)]
     exact Or.inl ⟨rfl, ⟨decide_eq_decide.2 (by omega), rfl⟩, by omega, by omega⟩
theorem Pl.uniq {l : List Nat} (h : Pl x b s l) : b = bE x ∧ s = sE x ∧ l = lE x := by
 have A := bigZ_pos
 unfold bE sE lE
 rcases h with ⟨rfl, ⟨rfl, rfl⟩, h1, h2⟩ | ⟨rfl, rfl, rfl, h⟩ | ⟨rfl, rfl, rfl, h⟩
 · rw [if_neg (by omega), if_neg (by omega), if_pos (by omega)]
   exact ⟨rfl, decide_eq_decide.2 (by omega), rfl⟩
 · rw [if_pos h, if_neg (by omega)]
   exact ⟨rfl, (decide_eq_false (by omega)).symm, rfl⟩
 · rw [if_neg (by omega), if_pos h, if_neg (by omega)]
   exact ⟨rfl, (decide_eq_false (by omega)).symm, rfl⟩
theorem Pl.nlo {l : List Nat} (h : Pl x b s l) (hx : x < bigZ) : (b != 0) = nLo x := by
 obtain ⟨rfl, _, _⟩ := h.uniq
 have A := bigZ_pos
 unfold bE nLo
 rw [if_neg (by omega)]
 by_cases h2 : x = -bigZ
 · rw [if_pos h2, decide_eq_true h2]; rfl
 · rw [if_neg h2, decide_eq_false h2]; rfl
theorem Pl.nhi {l : List Nat} (h : Pl x b s l) (hx : -bigZ < x) : (b != 0) = nHi x := by
 obtain ⟨rfl, _, _⟩ := h.uniq
 have A := bigZ_pos
 unfold bE nHi
 by_cases h2 : x = bigZ
 · rw [if_pos h2, decide_eq_true h2]; rfl
 · rw [if_neg h2, if_neg (by omega), decide_eq_false h2]; rfl
def ivOf (x y : Int) : Iv := ⟨nLo x, sE x, lE x, nHi y, sE y, lE y⟩
def Iv.lo (p : Iv) : Int := loV p.n0 p.s0 p.l0
def Iv.hi (p : Iv) : Int := hiV p.n1 p.s1 p.l1
structure Iv.fine (p : Iv) (N : Nat) : Prop where
 m0 : Small p.l0
 m1 : Small p.l1
 q0 : p.l0.length ≤ N
 q1 : p.l1.length ≤ N
theorem lo_range {n : Bool} {l : List Nat} (hs : Small l) (hl : l.length ≤ 6000) : -bigZ ≤ loV n s l ∧ loV n s l < bigZ := by
 have := zof_big (s := s) hs hl
 have := bigZ_pos
 cases n
 · show -bigZ ≤ zof s l ∧ zof s l < bigZ; omega
 · show -bigZ ≤ -bigZ ∧ -bigZ < bigZ; omega
theorem hi_range {n : Bool} {l : List Nat} (hs : Small l) (hl : l.length ≤ 6000) : -bigZ < hiV n s l ∧ hiV n s l ≤ bigZ := by
 have := zof_big (s := s) hs hl
 have := bigZ_pos
 cases n
 · show -bigZ < zof s l ∧ zof s l ≤ bigZ; omega
 · show -bigZ < bigZ ∧ bigZ ≤ bigZ; omega
theorem Iv.is {p : Iv} (h : p.ok = true) (hf : p.fine 6000) : p = ivOf p.lo p.hi := by
 obtain ⟨C, A, D, n1, B, E⟩ := p
 obtain ⟨F, G⟩ := okA_ends h
 obtain ⟨H, I, J, K⟩ := hf
 dsimp only at *
 have c := zof_big (s := A) H J
 have e := zof_big (s := B) I K
 obtain ⟨b, g, i, j, m, P⟩ := Plc.ex (-1) C A D none 0
 obtain ⟨d, o, q, r, t, Q⟩ := Plc.ex 1 n1 B E none 0
 have u := P.lo F H J
 have v := Q.hi G I K
 have f := bigZ_pos
 have T := lo_range (n := C) (s := A) H J
 have U := hi_range (n := n1) (s := B) I K
 have V := u.nlo T.2
 have W := v.nhi U.1
 obtain ⟨x, X, Y⟩ := u.uniq
 obtain ⟨y, Z, a⟩ := v.uniq
 unfold ivOf Iv.lo Iv.hi
 dsimp only
 rw [← V, ← W, ← X, ← Y, ← Z, ← a]
 have R : okE C A D = true → C = true → A = false ∧ D = [] := fun h hn => by subst hn; simpa [okE] using h
 have S : okE n1 B E = true → n1 = true → B = false ∧ E = [] := fun h hn => by subst hn; simpa [okE] using h
 rcases P with ⟨hn, hb', hs', hl', _, _⟩ | ⟨hn, hb', hs', hl', _, _⟩ <;> rcases Q with ⟨hn2, hb2', hs2', hl2', _, _⟩ | ⟨hn2, hb2', hs2', hl2', _, _⟩
 · obtain ⟨L, M⟩ := R F hn
   obtain ⟨N, O⟩ := S G hn2
   subst hn hb' hs' hl' hn2 hb2' hs2' hl2' L M N O
   rfl
 · obtain ⟨L, M⟩ := R F hn
   subst hn hb' hs' hl' hn2 hb2' hs2' hl2' L M
   rfl
 · obtain ⟨N, O⟩ := S G hn2
   subst hn hb' hs' hl' hn2 hb2' hs2' hl2' N O
   rfl
 · subst hn hb' hs' hl' hn2 hb2' hs2' hl2'
   rfl
theorem BoxL.of6 {b c : Value} (h : Box6 W g a b c d e f) : BoxL W g [a, b, c, d, e, f] := by
 refine ⟨fun j v hv => ?_, fun j v hv => ?_, h.lt⟩ <;> rcases j with _ | _ | _ | _ | _ | _ | j <;> simp at hv <;> subst hv
 · exact h.c0
 · exact h.c1
 · exact h.c2
 · exact h.c3
 · exact h.c4
 · exact h.c5
 · exact h.f0
 · exact h.f1
 · exact h.f2
 · exact h.f3
 · exact h.f4
 · exact h.f5
theorem BoxL.six {b c : Value} (h : BoxL W g [a, b, c, d, e, f]) : Box6 W g a b c d e f :=
 ⟨h.c 0 _ rfl, h.c 1 _ rfl, h.c 2 _ rfl, h.c 3 _ rfl, h.c 4 _ rfl, h.c 5 _ rfl, h.f 0 _ rfl, h.f 1 _ rfl, h.f 2 _ rfl, h.f 3 _ rfl, h.f 4 _ rfl, h.f 5 _ rfl, h.lt⟩
structure Put6 (w W' : World) (g : Nat) (x0 x1 x2 x3 x4 x5 : Value) : Prop where
 box : Box6 W' g x0 x1 x2 x3 x4 x5
 bel : Below w.heap.size w W'
theorem Box6.put {w : World} {b c : Value} (h : Box6 W g a b c d e f) (hB : Below w.heap.size w W) (hg : w.heap.size ≤ g) (x0 x1 x2 x3 x4 x5 : Value) :
   Put6 w ((((((W.setCell ⟨g, 0, none⟩ x0).setCell ⟨g, 1, none⟩ x1).setCell ⟨g, 2, none⟩ x2).setCell ⟨g, 3, none⟩ x3).setCell ⟨g, 4, none⟩ x4).setCell ⟨g, 5, none⟩ x5) g x0 x1 x2 x3 x4 x5 :=
 ⟨BoxL.six ((((((((BoxL.of6 h).set 0 x0 rfl).set 1 x1 rfl).set 2 x2 rfl).set 3 x3 rfl).set 4 x4 rfl).set 5 x5 rfl)),
  (((((hB.setCell (p := ⟨g, 0, none⟩) hg _).setCell (p := ⟨g, 1, none⟩) hg _).setCell (p := ⟨g, 2, none⟩) hg _).setCell (p := ⟨g, 3, none⟩) hg _).setCell (p := ⟨g, 4, none⟩) hg _).setCell (p := ⟨g, 5, none⟩) hg _⟩
theorem U64s.set6 {l : List Nat} (h : U64s W Z A c l) (hz : ¬ Z.blk g) (x0 x1 x2 x3 x4 x5 : Value) :
  U64s ((((((W.setCell ⟨g, 0, none⟩ x0).setCell ⟨g, 1, none⟩ x1).setCell ⟨g, 2, none⟩ x2).setCell ⟨g, 3, none⟩ x3).setCell ⟨g, 4, none⟩ x4).setCell ⟨g, 5, none⟩ x5) Z A c l :=
 (((((h.set1 g 0 hz x0).set1 g 1 hz x1).set1 g 2 hz x2).set1 g 3 hz x3).set1 g 4 hz x4).set1 g 5 hz x5
theorem wof_p {w : World} {n : Int} {l : List Nat} (h : Nm n s l) (hn : -9223372036854775808 ≤ n ∧ n ≤ 9223372036854775807) :
  Calls Tryz.prog 63 #[.int .i64 n] w fun e w' => ∃ A c, e = .returned (.agg #[.bool s, .slice A l.length c]) ∧ U64s w' (new w.heap.size) A c l ∧ Below w.heap.size w w' := by
 refine (wof_any hn).mono ?_
 rintro e w' ⟨v, rfl, B, C⟩
 obtain ⟨A, c, rfl, D⟩ := h.of B
 exact ⟨A, c, rfl, D, C⟩
theorem int_big {n : Int} (hn : -9223372036854775808 ≤ n ∧ n ≤ 9223372036854775807) : -bigZ < n ∧ n < bigZ := by
 have : ((9223372036854775808 : Nat) : Int) < bigZ := lt_big (m := 1) (by decide) (by omega)
 omega
theorem nm_e {n : Int} (hn : -bigZ < n ∧ n < bigZ) : Nm n (sE n) (lE n) := by
 unfold sE lE
 rw [if_pos hn]
 exact ⟨decide_eq_decide.2 (by omega), rfl⟩
theorem nLo_no {n : Int} (hn : -bigZ < n) : nLo n = false := decide_eq_false (by omega)
theorem nHi_no {n : Int} (hn : n < bigZ) : nHi n = false := decide_eq_false (by omega)
theorem len_e {n : Int} (hn : -9223372036854775808 ≤ n ∧ n ≤ 9223372036854775807) : (lE n).length ≤ 1 := by
 unfold lE
 rw [if_pos (int_big hn)]
 exact len_limbs_le (by rw [Nat.pow_one]; omega)
theorem iof_good {w : World} (hx : -9223372036854775808 ≤ x ∧ x ≤ 9223372036854775807) (hy : -9223372036854775808 ≤ y ∧ y ≤ 9223372036854775807) (h : x ≤ y) :
  Calls Tryz.prog 24 #[.int .i64 x, .int .i64 y] w fun e w' => ∃ A c B d, e = .returned (.tuple #[.agg #[.bool (nLo x), .bool (sE x), .slice A (lE x).length c, .bool (nHi y), .bool (sE y), .slice B (lE y).length d], .int .i64 0]) ∧ U64s w' (new w.heap.size) A c (lE x) ∧ U64s w' (new w.heap.size) B d (lE y) ∧ Below w.heap.size w w' := by
 have n1 := nm_e (int_big hx)
 have G := nm_e (int_big hy)
 have V := len_e hx
 have W := len_e hy
 rw [nLo_no (int_big hx).1, nHi_no (int_big hy).2]
 obtain ⟨s, H⟩ : ∃ s, s = sE x := ⟨_, rfl⟩
 obtain ⟨l, C⟩ : ∃ l, l = lE x := ⟨_, rfl⟩
 obtain ⟨t, I⟩ : ∃ t, t = sE y := ⟨_, rfl⟩
 obtain ⟨k, D⟩ : ∃ k, k = lE y := ⟨_, rfl⟩
 rw [← H, ← C] at n1
 rw [← I, ← D] at G
 rw [← C] at V
 rw [← D] at W
 rw [← H, ← C, ← I, ← D]
 obtain ⟨Y, Z, a, b⟩ := hid4 n1 G hx hy
 have hd : decide (y < x) = false := decide_eq_false (by omega)
 obtain ⟨i, j⟩ := hid2 ((Below.refl _ w).alloc (Nat.le_refl _) (.cells #[.bool false, .bool false, .slice none 0 0, .bool false, .bool false, .slice none 0 0] 39)) (Box6.new w (.bool false) (.bool false) (.slice none 0 0) (.bool false) (.bool false) (.slice none 0 0) 39)
 clear n1 G H C I D hx hy h
 go_enter Tryz.func24, Tryz.ntmps24
 go_wp2_with fail
 refine (wof_p Y.out a.out).mono ?_
 rintro e m ⟨A1, c1, rfl, u1, J⟩
 obtain ⟨o, T⟩ := hid2 (from_ i.out J) (j.out.below J)
 go_wp2_with fail
 refine (iat_p u1 (by omega)).mono ?_
 rintro e w2 ⟨K, L, rfl, u2, M⟩
 obtain ⟨q, r⟩ := hid2 (from_ o.out M) (T.out.below M)
 clear u1
 go_wp2_with fail
 refine (wof_p Z.out b.out).mono ?_
 rintro e u ⟨A3, c3, rfl, u3, E⟩
 obtain ⟨v, U⟩ := hid2 (from_ q.out E) (r.out.below E)
 go_wp2_with fail
 refine (iat_p u3 (by omega)).mono ?_
 rintro e w4 ⟨N, O, rfl, u4, F⟩
 have X := hid (from_ v.out F)
 have P := U.out.below F
 have Q := hid (P.put X.out (Nat.le_refl _) (.bool false) (.bool s) (.slice K l.length L) (.bool false) (.bool t) (.slice N k.length O))
 have R := T.out.lt
 have S := U.out.lt
 obtain ⟨z, U4⟩ := hid2 ((((u2.below E).below F).set6 (g := w.heap.size) (fun (h : m.heap.size ≤ w.heap.size) => by omega) (.bool false) (.bool s) (.slice K l.length L) (.bool false) (.bool t) (.slice N k.length O)).mono (new_le (Nat.le_of_lt R))) ((u4.set6 (g := w.heap.size) (fun (h : u.heap.size ≤ w.heap.size) => by omega) (.bool false) (.bool s) (.slice K l.length L) (.bool false) (.bool t) (.slice N k.length O)).mono (new_le (Nat.le_of_lt S)))
 have q0 := P.cf
 clear u2 u3 u4 J M E F R S
 go_wp2
 refine bodyPost_ret (res_itv2 rfl _ w.heap.size rfl Q.out.box) rfl ?_
 exact ⟨_, _, _, _, rfl, z.out, U4.out, Q.out.bel⟩
theorem st6 {w : World} {b : Nat} {x0 x1 x2 x3 x4 x5 : Value} (h : w.cell? ⟨g, i, none⟩ = some v) (hn : b ≠ g) : ((((((w.setCell ⟨b, 0, none⟩ x0).setCell ⟨b, 1, none⟩ x1).setCell ⟨b, 2, none⟩ x2).setCell ⟨b, 3, none⟩ x3).setCell ⟨b, 4, none⟩ x4).setCell ⟨b, 5, none⟩ x5).cell? ⟨g, i, none⟩ = some v := by
 rw [World.cell?_setCell_other _ _ _ _ (fun e => hn (by injection e)), World.cell?_setCell_other _ _ _ _ (fun e => hn (by injection e)), World.cell?_setCell_other _ _ _ _ (fun e => hn (by injection e)), World.cell?_setCell_other _ _ _ _ (fun e => hn (by injection e)), World.cell?_setCell_other _ _ _ _ (fun e => hn (by injection e)), World.cell?_setCell_other _ _ _ _ (fun e => hn (by injection e))]
 exact h
theorem iturned_p {w : World} {b' : Int} {l : List Nat} (h : Pl x b s l) (h' : Pl (-x) b' s' l') (u : U64s w Z A c l) (hl : l.length ≤ 9000) :
  Calls Tryz.prog 168 #[.agg #[.int .i64 b, .bool s, .slice A l.length c]] w fun e w' => ∃ A' c', e = .returned (.agg #[.int .i64 b', .bool s', .slice A' l'.length c']) ∧ U64s w' (new w.heap.size) A' c' l' ∧ Below w.heap.size w w' := by
 have O : b' = -b ∧ (b = -1 ∨ b = 0 ∨ b = 1) := by
  have P := h.uniq.1
  have Q := h'.uniq.1
  have := bigZ_pos
  have r := h.range
  rw [P, Q]
  unfold bE
  split <;> split <;> (try split) <;> (try split) <;> omega
 have R : ∃ H, Nm H s l ∧ Nm (-H) s' l' := by
  rcases h with ⟨rfl, n1, r1, r2⟩ | ⟨rfl, rfl, rfl, hx⟩ | ⟨rfl, rfl, rfl, hx⟩
  · rcases h' with ⟨_, B, _⟩ | ⟨h, _, _, hx⟩ | ⟨h, _, _, hx⟩
    · exact ⟨x, n1, B⟩
    · omega
    · omega
  · rcases h' with ⟨h, B, _⟩ | ⟨h, rfl, rfl, hx⟩ | ⟨h, rfl, rfl, hx⟩
    · omega
    · omega
    · exact ⟨0, ⟨rfl, rfl⟩, ⟨rfl, rfl⟩⟩
  · rcases h' with ⟨h, B, _⟩ | ⟨h, rfl, rfl, hx⟩ | ⟨h, rfl, rfl, hx⟩
    · omega
    · exact ⟨0, ⟨rfl, rfl⟩, ⟨rfl, rfl⟩⟩
    · omega
 obtain ⟨H, n1, B⟩ := R
 obtain ⟨rfl, T⟩ := O
 obtain ⟨L, M, I⟩ := boxQ w (.int .i64 b) (.bool s) (.slice A l.length c) (.int .i64 0) (.bool false) (.slice none 0 0) 93 93
 obtain ⟨U, V, G, N⟩ := hid4 (wneg_n n1 B rfl (by omega) (u.below I)) L M I
 obtain ⟨j, m, o, _, _, _, _⟩ := L
 clear u M I n1 B h h'
 have W : IntKind.i64.wrap (-b) = -b := by rcases T with rfl | rfl | rfl <;> rfl
 go_enter Tryz.func168, Tryz.ntmps168
 go_wp2_with fail
 refine U.out.mono ?_
 rintro e C ⟨J, K, rfl, u1, D⟩
 have X := (G.out.below D).lt
 obtain ⟨E, F⟩ := hid2 ((G.out.below D).put (from_ N.out D) (by omega) (.int .i64 (-b)) (.bool s') (.slice J l'.length K)) ((Below.refl _ (((C.setCell ⟨w.heap.size + 1, 0, none⟩ (.int .i64 (-b))).setCell ⟨w.heap.size + 1, 1, none⟩ (.bool s')).setCell ⟨w.heap.size + 1, 2, none⟩ (.slice J l'.length K))).alloc (Nat.le_refl _) (.cells #[.bool s', .slice J l'.length K] 35))
 have S := hid (((E.out.keep (fun (h : _ ≤ w.heap.size + 1) => by have := G.out.lt; omega) u1).mono (new_le N.out.size)).below F.out)
 obtain ⟨q, v, y, _⟩ := V.out.below D
 obtain ⟨z, q1, q2, f0, f1, f2, _⟩ := G.out.below D
 have Y : w.heap.size < C.heap.size := by omega
 have a : ¬ C.heap.size = w.heap.size := by omega
 have d : ¬ C.heap.size = w.heap.size + 1 := by omega
 have g : ¬ w.heap.size + 1 = C.heap.size := by omega
 have i : ¬ w.heap.size = C.heap.size := by omega
 clear u1 D
 go_wp2
 refine bodyPost_ret (res_place rfl _ (w.heap.size + 1) rfl (keepC F.out E.out.c0) (keepC F.out E.out.c1) (keepC F.out E.out.c2)) rfl ?_
 exact ⟨_, _, rfl, S.out, from_ E.out.bel F.out⟩
structure Pq where
 x : Int
 b : Int
 s : Bool
 l : List Nat
def GivenP (w : World) (g : Nat) (ps : List Pq) : Prop :=
 ∀ j (h : j < ps.length), ∃ A c, w.cell? ⟨g, j * 3, none⟩ = some (.int .i64 ps[j].b) ∧ w.cell? ⟨g, j * 3 + 1, none⟩ = some (.bool ps[j].s) ∧ w.cell? ⟨g, j * 3 + 2, none⟩ = some (.slice A ps[j].l.length c) ∧ Pl ps[j].x ps[j].b ps[j].s ps[j].l ∧ U64s w old A c ps[j].l ∧ ps[j].l.length ≤ 9000
theorem GivenP.below {w : World} {ps : List Pq} (h : GivenP w g ps) (hb : Below w.heap.size w w') : GivenP w' g ps := fun j hj => by
 obtain ⟨A, c, B, C, D, E, F, G⟩ := h j hj
 exact ⟨A, c, keepC hb B, keepC hb C, keepC hb D, E, F.below hb, G⟩
theorem BoxL.of3 {b c : Value} (h : Box3 W g a b c) : BoxL W g [a, b, c] := by
 refine ⟨fun j v hv => ?_, fun j v hv => ?_, h.lt⟩ <;> rcases j with _ | _ | _ | j <;> simp at hv <;> subst hv
 · exact h.c0
 · exact h.c1
 · exact h.c2
 · exact h.f0
 · exact h.f1
 · exact h.f2
theorem BoxL.three {b c : Value} (h : BoxL W g [a, b, c]) : Box3 W g a b c :=
 ⟨h.c 0 _ rfl, h.c 1 _ rfl, h.c 2 _ rfl, h.f 0 _ rfl, h.f 1 _ rfl, h.f 2 _ rfl, h.lt⟩
theorem Box3.set3 {b c : Value} (h : Box3 W g a b c) (x y z : Value) : Box3 (((W.setCell ⟨g, 0, none⟩ x).setCell ⟨g, 1, none⟩ y).setCell ⟨g, 2, none⟩ z) g x y z :=
 BoxL.three ((((BoxL.of3 h).set 0 x rfl).set 1 y rfl).set 2 z rfl)
theorem Box3.oth3 {b c : Value} (h : Box3 W g a b c) (g' : Nat) (hn : g' ≠ g) (x y z : Value) : Box3 (((W.setCell ⟨g', 0, none⟩ x).setCell ⟨g', 1, none⟩ y).setCell ⟨g', 2, none⟩ z) g a b c :=
 BoxL.three ((((BoxL.of3 h).other g' 0 hn x).other g' 1 hn y).other g' 2 hn z)
theorem imin_p {w : World} {n : Nat} {ps : List Pq} {m : Int} (h : GivenP w g ps) (hn : n = ps.length) (hl : ps.length ≤ 1000) (h1 : ∀ j (hj : j < ps.length), m ≤ ps[j].x) (h2 : ∃ j, ∃ (hj : j < ps.length), ps[j].x = m) :
  Calls Tryz.prog 193 #[.slice (some ⟨g, 0, none⟩) n c, .func (.func 35) #[] #[]] w fun e w' => ∃ b s l A d, e = .returned (.agg #[.int .i64 b, .bool s, .slice A l.length d]) ∧ Pl m b s l ∧ U64s w' old A d l ∧ l.length ≤ 9000 ∧ Below w.heap.size w w' := by
 subst hn
 have h0 : 0 < ps.length := by obtain ⟨j, hj, _⟩ := h2; omega
 obtain ⟨H1, H2⟩ := hid2 h1 h2
 obtain ⟨A0, d0, U, k1, k2, P0, U0, L0⟩ := h 0 h0
 rw [Nat.zero_mul] at U k1 k2
 have M : Below w.heap.size w (w.alloc (.cells #[.int .i64 0, .bool false, .slice none 0 0] 93)) := (Below.refl _ w).alloc (Nat.le_refl _) _
 obtain ⟨B0, Q0⟩ := hid2 (Box3.new w (.int .i64 0) (.bool false) (.slice none 0 0) 93) (Box3.new (w.alloc (.cells #[.int .i64 0, .bool false, .slice none 0 0] 93)) (.int .i64 ps[0].b) (.bool ps[0].s) (.slice A0 ps[0].l.length d0) 93)
 have Kd := U
 have hd : decide ((ps.length : Int) < 1) = false := decide_eq_false (by omega)
 have e0 := keepC M U
 have e1 := keepC M k1
 have e2 := keepC M k2
 have HB := hid M
 have Ke : (w.alloc (.cells #[.int .i64 0, .bool false, .slice none 0 0] 93)).heap.size = w.heap.size + 1 := by simp
 obtain ⟨Kv, Kf⟩ := hid2 P0 U0
 clear h1 h2 M P0 U0 U k1 k2
 go_enter Tryz.func193, Tryz.ntmps193
 go_wp2
 go_loopw [6] (fun i wr => ∃ k : Nat, 1 ≤ k ∧ k ≤ ps.length ∧ i = .int .i64 k ∧ Below w.heap.size w wr ∧ Hid (∃ r, ∃ (J : r < ps.length), ∃ A d, Box3 wr (w.heap.size + 1) (.int .i64 ps[r].b) (.bool ps[r].s) (.slice A ps[r].l.length d) ∧ U64s w old A d ps[r].l ∧ ∀ j (hj : j < ps.length), j < k → ps[r].x ≤ ps[j].x) ∧ Hid (Box3 wr w.heap.size (.int .i64 0) (.bool false) (.slice none 0 0))) (fun i _ => ps.length - (intOf i).toNat)
 case atStart =>
  have E : Below w.heap.size w ((w.alloc (.cells #[.int .i64 0, .bool false, .slice none 0 0] 93)).alloc (.cells #[.int .i64 ps[0].b, .bool ps[0].s, .slice A0 ps[0].l.length d0] 93)) := HB.out.alloc HB.out.size _
  refine ⟨1, by omega, by omega, rfl, E, hid ⟨0, h0, A0, d0, ?_, Kf.out.mono (le_old _), fun j hj h => ?_⟩, hid (B0.out.alloc _)⟩
  · have := Q0.out
    rw [Ke] at this
    exact this
  · obtain rfl : j = 0 := by omega
    exact Int.le_refl _
 case round =>
  obtain ⟨k, Kw, hk, rfl, D, V, X⟩ := hrel
  by_cases hlt : k < ps.length
  · obtain ⟨r, J, A, d, bx, F, G⟩ := V.out
    obtain ⟨K, L, c0, c1, c2, Y, Z, lk⟩ := h k hlt
    replace c0 := keepC D c0
    replace c1 := keepC D c1
    replace c2 := keepC D c2
    obtain ⟨_, _, _, _, _, H, _, N⟩ := (h.below D) r J
    obtain ⟨gg, a⟩ : ∃ gg, cmpP ps[k].b ps[r].b ps[k].x ps[r].x = gg := ⟨_, rfl⟩
    have v := cmpP_le Y H
    rw [a] at v
    obtain ⟨Kc, Kg, Ka, Kb⟩ := hid4 (fun (W : World) (hb : Below wr.heap.size wr W) => icompare_p (w := W) Y H (Z.below (from_ D hb)) (F.below (from_ D hb)) (by omega) (by omega) a) Z bx F
    have Ko : w.heap.size + 1 < wr.heap.size := bx.lt
    obtain ⟨o, q, u, Kh, Ki, Kj, _⟩ := bx
    have Kp := hid c0
    have Kq : g < w.heap.size := lt_of_cell Kd
    have Kr : ¬ g = w.heap.size + 1 := by omega
    have Ks : ¬ w.heap.size + 1 = g := by omega
    have C := hid (show Below wr.heap.size wr wr.drew from (Below.refl _ wr).drew)
    have O := keepC C.out c0
    have P := keepC C.out c1
    have Q := keepC C.out c2
    have R := keepC C.out o
    have S := keepC C.out q
    have T := keepC C.out u
    have Kt := hid (And.intro c0 (And.intro c1 c2))
    by_cases B : gg < 0
    · have hd : decide (gg < 0) = true := decide_eq_true B
      have y := hid (show ∀ j (hj : j < ps.length), j < k + 1 → ps[k].x ≤ ps[j].x from fun j hj hjk => by
       rcases Nat.lt_or_ge j k with h' | h'
       · have := G j hj h'; omega
       · obtain rfl : j = k := by omega
         exact Int.le_refl _)
      clear G v a Y H Z F lk N B V c0 c1 c2 o q u
      have Hq : Hid (ps[k] = ps[k]) := rfl
      go_wp2
      go_region_held3 (fun w' => w'.cell? ⟨g, k * 3, none⟩ = some (.int .i64 ps[k].b) ∧ w'.cell? ⟨g, k * 3 + 1, none⟩ = some (.bool ps[k].s) ∧ w'.cell? ⟨g, k * 3 + 2, none⟩ = some (.slice K ps[k].l.length L) ∧ C3 w' (w.heap.size + 1) (.int .i64 ps[r].b) (.bool ps[r].s) (.slice A ps[r].l.length d))
       (first
        | (go_keep; done)
        | exact ⟨O, P, Q, R, S, T⟩
        | exact ⟨z, t1, t2, t3, t4, t5⟩)
       (first
        | (go_at_call 35; with_reducible refine (Kc.out _ C.out).mono ?_; rintro e w1 ⟨rfl, B⟩; have z := keepC B O; have t1 := keepC B P; have t2 := keepC B Q; have t3 := keepC B R; have t4 := keepC B S; have t5 := keepC B T))
      all_goals
       have E := hid (C.out.trans (B.mono C.out.size))
       have B1 := Ka.out.below E.out
       obtain ⟨Kk, Kl, I⟩ := hid3 (B1.set3 (.int .i64 ps[k].b) (.bool ps[k].s) (.slice K ps[k].l.length L)) ((X.out.below E.out).oth3 (w.heap.size + 1) (by omega) (.int .i64 ps[k].b) (.bool ps[k].s) (.slice K ps[k].l.length L)) (B1.put (from_ D E.out) (by omega) (.int .i64 ps[k].b) (.bool ps[k].s) (.slice K ps[k].l.length L))
       obtain ⟨_, _, _, Kx, Ky, Kz, _⟩ := B1
       go_wp2
       go_roundw
       case rel => exact ⟨k + 1, by omega, by omega, by go_num, I.out.bel, hid ⟨k, hlt, K, L, Kk.out, Kg.out, y.out⟩, Kl⟩
       case measure => simp [intOf]; omega
    · have hd : decide (gg < 0) = false := decide_eq_false B
      have y := hid (show ∀ j (hj : j < ps.length), j < k + 1 → ps[r].x ≤ ps[j].x from fun j hj hjk => by
       rcases Nat.lt_or_ge j k with h' | h'
       · exact G j hj h'
       · obtain rfl : j = k := by omega
         omega)
      clear G v a Y H Z F lk N B V c0 c1 c2 o q u
      have Hq : Hid (ps[k] = ps[k]) := rfl
      go_wp2
      go_region_held3 (fun w' => w'.cell? ⟨g, k * 3, none⟩ = some (.int .i64 ps[k].b) ∧ w'.cell? ⟨g, k * 3 + 1, none⟩ = some (.bool ps[k].s) ∧ w'.cell? ⟨g, k * 3 + 2, none⟩ = some (.slice K ps[k].l.length L) ∧ C3 w' (w.heap.size + 1) (.int .i64 ps[r].b) (.bool ps[r].s) (.slice A ps[r].l.length d))
       (first
        | (go_keep; done)
        | exact ⟨O, P, Q, R, S, T⟩
        | exact ⟨z, t1, t2, t3, t4, t5⟩)
       (first
        | (go_at_call 35; with_reducible refine (Kc.out _ C.out).mono ?_; rintro e w1 ⟨rfl, B⟩; have z := keepC B O; have t1 := keepC B P; have t2 := keepC B Q; have t3 := keepC B R; have t4 := keepC B S; have t5 := keepC B T))
      all_goals
       have E := hid (C.out.trans (B.mono C.out.size))
       go_wp2
       go_roundw
       case rel => exact ⟨k + 1, by omega, by omega, by go_num, from_ D E.out, hid ⟨r, J, A, d, Ka.out.below E.out, Kb.out, y.out⟩, hid (X.out.below E.out)⟩
       case measure => simp [intOf]; omega
  · obtain rfl : k = ps.length := by omega
    obtain ⟨r, J, A, d, bx, F, G⟩ := V.out
    obtain ⟨_, _, _, _, _, H, _, N⟩ := (h.below D) r J
    have hm : ps[r].x = m := by
     obtain ⟨j, hj, e⟩ := H2.out
     have e1 := G j hj hj
     have e2 := H1.out r J
     omega
    obtain ⟨Km, Kn, Kb, Ka, I⟩ := hid5 (hm ▸ H) N F bx (X.out.put D (Nat.le_refl _) (.int .i64 ps[r].b) (.bool ps[r].s) (.slice A ps[r].l.length d))
    obtain ⟨o, q, u, Kh, Ki, Kj, _⟩ := bx
    obtain ⟨z0, z1, z2, KA, KB, KC, _⟩ := X.out
    clear G hm H N F
    go_wp2
    refine bodyPost_ret (res_place rfl _ w.heap.size rfl I.out.c0 I.out.c1 I.out.c2) rfl ?_
    exact ⟨_, _, _, _, _, rfl, Km.out, Kb.out.below I.out.bel, Kn.out, I.out.bel⟩
theorem imax_p {w : World} {n : Nat} {ps : List Pq} {m : Int} (h : GivenP w g ps) (hn : n = ps.length) (hl : ps.length ≤ 1000) (h1 : ∀ j (hj : j < ps.length), ps[j].x ≤ m) (h2 : ∃ j, ∃ (hj : j < ps.length), ps[j].x = m) :
  Calls Tryz.prog 194 #[.slice (some ⟨g, 0, none⟩) n c, .func (.func 35) #[] #[]] w fun e w' => ∃ b s l A d, e = .returned (.agg #[.int .i64 b, .bool s, .slice A l.length d]) ∧ Pl m b s l ∧ U64s w' old A d l ∧ l.length ≤ 9000 ∧ Below w.heap.size w w' := by
 subst hn
 have h0 : 0 < ps.length := by obtain ⟨j, hj, _⟩ := h2; omega
 obtain ⟨H1, H2⟩ := hid2 h1 h2
 obtain ⟨A0, d0, U, k1, k2, P0, U0, L0⟩ := h 0 h0
 rw [Nat.zero_mul] at U k1 k2
 have M : Below w.heap.size w (w.alloc (.cells #[.int .i64 0, .bool false, .slice none 0 0] 93)) := (Below.refl _ w).alloc (Nat.le_refl _) _
 obtain ⟨B0, Q0⟩ := hid2 (Box3.new w (.int .i64 0) (.bool false) (.slice none 0 0) 93) (Box3.new (w.alloc (.cells #[.int .i64 0, .bool false, .slice none 0 0] 93)) (.int .i64 ps[0].b) (.bool ps[0].s) (.slice A0 ps[0].l.length d0) 93)
 have Kd := U
 have hd : decide ((ps.length : Int) < 1) = false := decide_eq_false (by omega)
 have e0 := keepC M U
 have e1 := keepC M k1
 have e2 := keepC M k2
 have HB := hid M
 have Ke : (w.alloc (.cells #[.int .i64 0, .bool false, .slice none 0 0] 93)).heap.size = w.heap.size + 1 := by simp
 obtain ⟨Kv, Kf⟩ := hid2 P0 U0
 clear h1 h2 M P0 U0 U k1 k2
 go_enter Tryz.func194, Tryz.ntmps194
 go_wp2
 go_loopw [6] (fun i wr => ∃ k : Nat, 1 ≤ k ∧ k ≤ ps.length ∧ i = .int .i64 k ∧ Below w.heap.size w wr ∧ Hid (∃ r, ∃ (J : r < ps.length), ∃ A d, Box3 wr (w.heap.size + 1) (.int .i64 ps[r].b) (.bool ps[r].s) (.slice A ps[r].l.length d) ∧ U64s w old A d ps[r].l ∧ ∀ j (hj : j < ps.length), j < k → ps[j].x ≤ ps[r].x) ∧ Hid (Box3 wr w.heap.size (.int .i64 0) (.bool false) (.slice none 0 0))) (fun i _ => ps.length - (intOf i).toNat)
 case atStart =>
  have E : Below w.heap.size w ((w.alloc (.cells #[.int .i64 0, .bool false, .slice none 0 0] 93)).alloc (.cells #[.int .i64 ps[0].b, .bool ps[0].s, .slice A0 ps[0].l.length d0] 93)) := HB.out.alloc HB.out.size _
  refine ⟨1, by omega, by omega, rfl, E, hid ⟨0, h0, A0, d0, ?_, Kf.out.mono (le_old _), fun j hj h => ?_⟩, hid (B0.out.alloc _)⟩
  · have := Q0.out
    rw [Ke] at this
    exact this
  · obtain rfl : j = 0 := by omega
    exact Int.le_refl _
 case round =>
  obtain ⟨k, Kw, hk, rfl, D, V, X⟩ := hrel
  by_cases hlt : k < ps.length
  · obtain ⟨r, J, A, d, bx, F, G⟩ := V.out
    obtain ⟨K, L, c0, c1, c2, Y, Z, lk⟩ := h k hlt
    replace c0 := keepC D c0
    replace c1 := keepC D c1
    replace c2 := keepC D c2
    obtain ⟨_, _, _, _, _, H, _, N⟩ := (h.below D) r J
    obtain ⟨gg, a⟩ : ∃ gg, cmpP ps[k].b ps[r].b ps[k].x ps[r].x = gg := ⟨_, rfl⟩
    have v := cmpP_le Y H
    rw [a] at v
    obtain ⟨Kc, Kg, Ka, Kb⟩ := hid4 (fun (W : World) (hb : Below wr.heap.size wr W) => icompare_p (w := W) Y H (Z.below (from_ D hb)) (F.below (from_ D hb)) (by omega) (by omega) a) Z bx F
    have Ko : w.heap.size + 1 < wr.heap.size := bx.lt
    obtain ⟨o, q, u, Kh, Ki, Kj, _⟩ := bx
    have Kp := hid c0
    have Kq : g < w.heap.size := lt_of_cell Kd
    have Kr : ¬ g = w.heap.size + 1 := by omega
    have Ks : ¬ w.heap.size + 1 = g := by omega
    have C := hid (show Below wr.heap.size wr wr.drew from (Below.refl _ wr).drew)
    have O := keepC C.out c0
    have P := keepC C.out c1
    have Q := keepC C.out c2
    have R := keepC C.out o
    have S := keepC C.out q
    have T := keepC C.out u
    have Kt := hid (And.intro c0 (And.intro c1 c2))
    by_cases B : 0 < gg
    · have hd : decide (0 < gg) = true := decide_eq_true B
      have y := hid (show ∀ j (hj : j < ps.length), j < k + 1 → ps[j].x ≤ ps[k].x from fun j hj hjk => by
       rcases Nat.lt_or_ge j k with h' | h'
       · have := G j hj h'; omega
       · obtain rfl : j = k := by omega
         exact Int.le_refl _)
      clear G v a Y H Z F lk N B V c0 c1 c2 o q u
      have Hq : Hid (ps[k] = ps[k]) := rfl
      go_wp2
      go_region_held3 (fun w' => w'.cell? ⟨g, k * 3, none⟩ = some (.int .i64 ps[k].b) ∧ w'.cell? ⟨g, k * 3 + 1, none⟩ = some (.bool ps[k].s) ∧ w'.cell? ⟨g, k * 3 + 2, none⟩ = some (.slice K ps[k].l.length L) ∧ C3 w' (w.heap.size + 1) (.int .i64 ps[r].b) (.bool ps[r].s) (.slice A ps[r].l.length d))
       (first
        | (go_keep; done)
        | exact ⟨O, P, Q, R, S, T⟩
        | exact ⟨z, t1, t2, t3, t4, t5⟩)
       (first
        | (go_at_call 35; with_reducible refine (Kc.out _ C.out).mono ?_; rintro e w1 ⟨rfl, B⟩; have z := keepC B O; have t1 := keepC B P; have t2 := keepC B Q; have t3 := keepC B R; have t4 := keepC B S; have t5 := keepC B T))
      all_goals
       have E := hid (C.out.trans (B.mono C.out.size))
       have B1 := Ka.out.below E.out
       obtain ⟨Kk, Kl, I⟩ := hid3 (B1.set3 (.int .i64 ps[k].b) (.bool ps[k].s) (.slice K ps[k].l.length L)) ((X.out.below E.out).oth3 (w.heap.size + 1) (by omega) (.int .i64 ps[k].b) (.bool ps[k].s) (.slice K ps[k].l.length L)) (B1.put (from_ D E.out) (by omega) (.int .i64 ps[k].b) (.bool ps[k].s) (.slice K ps[k].l.length L))
       obtain ⟨_, _, _, Kx, Ky, Kz, _⟩ := B1
       go_wp2
       go_roundw
       case rel => exact ⟨k + 1, by omega, by omega, by go_num, I.out.bel, hid ⟨k, hlt, K, L, Kk.out, Kg.out, y.out⟩, Kl⟩
       case measure => simp [intOf]; omega
    · have hd : decide (0 < gg) = false := decide_eq_false B
      have y := hid (show ∀ j (hj : j < ps.length), j < k + 1 → ps[j].x ≤ ps[r].x from fun j hj hjk => by
       rcases Nat.lt_or_ge j k with h' | h'
       · exact G j hj h'
       · obtain rfl : j = k := by omega
         omega)
      clear G v a Y H Z F lk N B V c0 c1 c2 o q u
      have Hq : Hid (ps[k] = ps[k]) := rfl
      go_wp2
      go_region_held3 (fun w' => w'.cell? ⟨g, k * 3, none⟩ = some (.int .i64 ps[k].b) ∧ w'.cell? ⟨g, k * 3 + 1, none⟩ = some (.bool ps[k].s) ∧ w'.cell? ⟨g, k * 3 + 2, none⟩ = some (.slice K ps[k].l.length L) ∧ C3 w' (w.heap.size + 1) (.int .i64 ps[r].b) (.bool ps[r].s) (.slice A ps[r].l.length d))
       (first
        | (go_keep; done)
        | exact ⟨O, P, Q, R, S, T⟩
        | exact ⟨z, t1, t2, t3, t4, t5⟩)
       (first
        | (go_at_call 35; with_reducible refine (Kc.out _ C.out).mono ?_; rintro e w1 ⟨rfl, B⟩; have z := keepC B O; have t1 := keepC B P; have t2 := keepC B Q; have t3 := keepC B R; have t4 := keepC B S; have t5 := keepC B T))
      all_goals
       have E := hid (C.out.trans (B.mono C.out.size))
       go_wp2
       go_roundw
       case rel => exact ⟨k + 1, by omega, by omega, by go_num, from_ D E.out, hid ⟨r, J, A, d, Ka.out.below E.out, Kb.out, y.out⟩, hid (X.out.below E.out)⟩
       case measure => simp [intOf]; omega
  · obtain rfl : k = ps.length := by omega
    obtain ⟨r, J, A, d, bx, F, G⟩ := V.out
    obtain ⟨_, _, _, _, _, H, _, N⟩ := (h.below D) r J
    have hm : ps[r].x = m := by
     obtain ⟨j, hj, e⟩ := H2.out
     have e1 := G j hj hj
     have e2 := H1.out r J
     omega
    obtain ⟨Km, Kn, Kb, Ka, I⟩ := hid5 (hm ▸ H) N F bx (X.out.put D (Nat.le_refl _) (.int .i64 ps[r].b) (.bool ps[r].s) (.slice A ps[r].l.length d))
    obtain ⟨o, q, u, Kh, Ki, Kj, _⟩ := bx
    obtain ⟨z0, z1, z2, KA, KB, KC, _⟩ := X.out
    clear G hm H N F
    go_wp2
    refine bodyPost_ret (res_place rfl _ w.heap.size rfl I.out.c0 I.out.c1 I.out.c2) rfl ?_
    exact ⟨_, _, _, _, _, rfl, Km.out, Kb.out.below I.out.bel, Kn.out, I.out.bel⟩
theorem icorners_p {w : World} {n : Nat} {ps : List Pq} {m : Int} (h : GivenP w g ps) (hn : n = ps.length) (hl : ps.length ≤ 1000) (h1 : ∀ j (hj : j < ps.length), m ≤ ps[j].x) (h2 : ∃ j, ∃ (hj : j < ps.length), ps[j].x = m) (h3 : ∀ j (hj : j < ps.length), ps[j].x ≤ M) (h4 : ∃ j, ∃ (hj : j < ps.length), ps[j].x = M)
  (gm : m < bigZ) (gM : -bigZ < M) {n1 : Bool} (e0 : n0 = nLo m ∧ s0 = sE m ∧ l0 = lE m) (e1 : n1 = nHi M ∧ s1 = sE M ∧ l1 = lE M) :
  Calls Tryz.prog 144 #[.slice (some ⟨g, 0, none⟩) n c] w fun e w' => ∃ A1 c1 A2 c2, e = .returned (.agg #[.bool n0, .bool s0, .slice A1 l0.length c1, .bool n1, .bool s1, .slice A2 l1.length c2]) ∧ U64s w' (new w.heap.size) A1 c1 l0 ∧ U64s w' (new w.heap.size) A2 c2 l1 ∧ Below w.heap.size w w' := by
 have H : Below w.heap.size w (w.alloc (.cells #[.bool false, .bool false, .slice none 0 0, .bool false, .bool false, .slice none 0 0] 39)) := (Below.refl _ w).alloc (Nat.le_refl _) _
 obtain ⟨U, V, W, X, Y, Z⟩ := hid6 H (Box6.new w (.bool false) (.bool false) (.slice none 0 0) (.bool false) (.bool false) (.slice none 0 0) 39) (imin_p (c := c) (h.below H) hn hl h1 h2) h h3 h4
 obtain ⟨a, E⟩ := hid2 hn e1
 clear h h1 h2 h3 h4 H hn e1
 go_enter Tryz.func144, Tryz.ntmps144
 go_wp2_with fail
 refine W.out.mono ?_
 rintro e i ⟨b, s, l, A, d, rfl, P, u, ln, I⟩
 have B := P.uniq.2.1
 have C := P.uniq.2.2
 have D := (P.nlo gm).trans e0.1.symm
 obtain rfl : s = s0 := B.trans e0.2.1.symm
 obtain rfl : l = l0 := C.trans e0.2.2.symm
 obtain ⟨o, O, q⟩ := hid3 (from_ U.out I) (V.out.below I) (ibound_p P D u (by omega))
 clear P u B C D e0
 go_wp2_with fail
 refine q.out.mono ?_
 rintro e w2 ⟨A1, c1, rfl, u1, J⟩
 obtain ⟨Q, r, v⟩ := hid3 (from_ o.out J) (O.out.below J) u1
 have T := hid (imax_p (c := c) (X.out.below Q.out) a.out hl Y.out Z.out)
 clear u1
 go_wp2_with fail
 refine T.out.mono ?_
 rintro e y ⟨b', t, k, A', d', rfl, P, u, Kb, F⟩
 have B := P.uniq.2.1
 have C := P.uniq.2.2
 have D := (P.nhi gM).trans E.out.1.symm
 obtain rfl : t = s1 := B.trans E.out.2.1.symm
 obtain rfl : k = l1 := C.trans E.out.2.2.symm
 obtain ⟨z, R, C2, Ka⟩ := hid4 (from_ Q.out F) (r.out.below F) (ibound_p P D u (by omega)) (v.out.below F)
 clear P u B C D E
 go_wp2_with fail
 refine C2.out.mono ?_
 rintro e w4 ⟨A2, c2, rfl, u2, G⟩
 have K := R.out.below G
 have L := O.out.lt
 have N := R.out.lt
 obtain ⟨S, U1, U2⟩ := hid3 (K.put (from_ z.out G) (Nat.le_refl _) (.bool n0) (.bool s) (.slice A1 l.length c1) (.bool n1) (.bool t) (.slice A2 k.length c2)) (((Ka.out.below G).set6 (g := w.heap.size) (fun (h : i.heap.size ≤ w.heap.size) => by omega) (.bool n0) (.bool s) (.slice A1 l.length c1) (.bool n1) (.bool t) (.slice A2 k.length c2)).mono (new_le (Nat.le_of_lt L))) ((u2.set6 (g := w.heap.size) (fun (h : y.heap.size ≤ w.heap.size) => by omega) (.bool n0) (.bool s) (.slice A1 l.length c1) (.bool n1) (.bool t) (.slice A2 k.length c2)).mono (new_le (Nat.le_of_lt N)))
 have q0 := K.cf
 clear u2 I J F G L N
 go_wp2
 refine bodyPost_ret (res_itv rfl _ w.heap.size rfl S.out.box) rfl ?_
 exact ⟨_, _, _, _, rfl, U1.out, U2.out, S.out.bel⟩
structure IvsAt (w : World) (Z : Zone) (A : Option Addr) (c : Nat) (ps : List Iv) : Prop where
 cap : ps.length ≤ c
 max : c ≤ 9223372036854775807
 row : 0 < ps.length → ∃ b o, A = some ⟨b, o, none⟩ ∧ b < w.heap.size ∧
  ∀ j (hj : j < ps.length), ∃ A0 d0 A1 d1, (w.cell? ⟨b, o + j * 6, none⟩ = some (.bool ps[j].n0) ∧ w.cell? ⟨b, o + j * 6 + 1, none⟩ = some (.bool ps[j].s0) ∧ w.cell? ⟨b, o + j * 6 + 2, none⟩ = some (.slice A0 ps[j].l0.length d0) ∧ w.cell? ⟨b, o + j * 6 + 3, none⟩ = some (.bool ps[j].n1) ∧ w.cell? ⟨b, o + j * 6 + 4, none⟩ = some (.bool ps[j].s1) ∧ w.cell? ⟨b, o + j * 6 + 5, none⟩ = some (.slice A1 ps[j].l1.length d1)) ∧ U64s w Z A0 d0 ps[j].l0 ∧ U64s w Z A1 d1 ps[j].l1
def IsIvs (w : World) (Z : Zone) (v : Value) (ps : List Iv) : Prop := ∃ A c, v = .slice A ps.length c ∧ IvsAt w Z A c ps
theorem IvsAt.nil (w : World) (Z : Zone) : IvsAt w Z none 0 [] := ⟨by simp, by omega, fun h => absurd h (by simp)⟩
theorem IvsAt.below {w : World} {ps : List Iv} (h : IvsAt w Z A c ps) (hb : Below w.heap.size w w') : IvsAt w' Z A c ps := by
 refine ⟨h.cap, h.max, fun h0 => ?_⟩
 obtain ⟨b, o, e, B, C⟩ := h.row h0
 refine ⟨b, o, e, Nat.lt_of_lt_of_le B hb.size, fun j hj => ?_⟩
 obtain ⟨D, E, F, G, ⟨H, I, J, K, L, M⟩, u0, u1⟩ := C j hj
 exact ⟨D, E, F, G, ⟨keepC hb H, keepC hb I, keepC hb J, keepC hb K, keepC hb L, keepC hb M⟩, u0.below hb, u1.below hb⟩
theorem IvsAt.mono {w : World} {ps : List Iv} (h : IvsAt w Z A c ps) (hz : Z.le Y) : IvsAt w Y A c ps := by
 refine ⟨h.cap, h.max, fun h0 => ?_⟩
 obtain ⟨b, o, e, B, C⟩ := h.row h0
 refine ⟨b, o, e, B, fun j hj => ?_⟩
 obtain ⟨D, E, F, G, H, u0, u1⟩ := C j hj
 exact ⟨D, E, F, G, H, u0.mono hz, u1.mono hz⟩
theorem IvsAt.len {w : World} {ps : List Iv} (h : IvsAt w Z A c ps) : ps.length ≤ 9223372036854775807 := Nat.le_trans h.cap h.max
theorem IvsAt.at {w : World} {ps : List Iv} (h : IvsAt w Z A c ps) (hj : j < ps.length) :
  ∃ b o A0 d0 A1 d1, A = some ⟨b, o, none⟩ ∧ b < w.heap.size ∧ (w.cell? ⟨b, o + j * 6, none⟩ = some (.bool ps[j].n0) ∧ w.cell? ⟨b, o + j * 6 + 1, none⟩ = some (.bool ps[j].s0) ∧ w.cell? ⟨b, o + j * 6 + 2, none⟩ = some (.slice A0 ps[j].l0.length d0) ∧ w.cell? ⟨b, o + j * 6 + 3, none⟩ = some (.bool ps[j].n1) ∧ w.cell? ⟨b, o + j * 6 + 4, none⟩ = some (.bool ps[j].s1) ∧ w.cell? ⟨b, o + j * 6 + 5, none⟩ = some (.slice A1 ps[j].l1.length d1)) ∧ U64s w Z A0 d0 ps[j].l0 ∧ U64s w Z A1 d1 ps[j].l1 := by
 obtain ⟨b, o, e, B, C⟩ := h.row (by omega)
 obtain ⟨A0, d0, A1, d1, h⟩ := C j hj
 exact ⟨b, o, A0, d0, A1, d1, e, B, h⟩
theorem IvsAt.small {w : World} {ps : List Iv} (h : IvsAt w Z A c ps) : ∀ p ∈ ps, Small p.l0 ∧ Small p.l1 := fun p hp => by
 obtain ⟨j, B, rfl⟩ := List.getElem_of_mem hp
 obtain ⟨_, _, _, _, _, _, _, _, _, u0, u1⟩ := h.at B
 exact ⟨u0.small, u1.small⟩
theorem ok_err {p : Iv} : errA p.n0 p.s0 p.l0 p.n1 p.s1 p.l1 = if p.ok = true then 0 else 8 := rfl
theorem lodd_any {w : World} {p : Iv} {A0 A1 : Option Addr} {d0 d1 : Nat} (u0 : U64s w Z A0 d0 p.l0) (u1 : U64s w Y A1 d1 p.l1) (hs : p.short) :
  Calls Tryz.prog 40 #[.agg #[.bool p.n0, .bool p.s0, .slice A0 p.l0.length d0, .bool p.n1, .bool p.s1, .slice A1 p.l1.length d1]] w fun e w' => e = .returned (.bool (!p.ok)) ∧ Below w.heap.size w w' := by
 have C : Below w.heap.size w (w.alloc (.cells #[.bool p.n0, .bool p.s0, .slice A0 p.l0.length d0, .bool p.n1, .bool p.s1, .slice A1 p.l1.length d1] 39)) := (Below.refl _ _).alloc (Nat.le_refl _) _
 obtain ⟨K, L, M, N, O, P, _, _, _, _, _, _, _⟩ := Box6.new w (.bool p.n0) (.bool p.s0) (.slice A0 p.l0.length d0) (.bool p.n1) (.bool p.s1) (.slice A1 p.l1.length d1) 39
 have D := icheck_any (n0 := p.n0) (s0 := p.s0) (n1 := p.n1) (s1 := p.s1) (u0.below C) (u1.below C) hs.1 hs.2
 rw [ok_err] at D
 have E := hid C
 have B : p.ok = true ∨ p.ok = false := by cases p.ok <;> simp
 have I := u0.len
 have J := u1.len
 clear u0 u1 hs C
 generalize p.l0.length = L0 at *
 generalize p.l1.length = L1 at *
 rcases B with B | B
 all_goals
  rw [B] at D ⊢
  have F := hid D
  clear D B
  go_enter Tryz.func40, Tryz.ntmps40
  go_wp2_with fail
  refine F.out.mono ?_
  rintro e Q ⟨rfl, H⟩
  have G := from_ E.out H
  go_wp2
  go_ret
  exact ⟨by first | rfl | trivial, G⟩
theorem lindex_form {w : World} {ps : List Iv} (ha : IvsAt w Z A c ps) (hs : ∀ p ∈ ps, p.short) :
  Calls Tryz.prog 86 #[.slice A ps.length c, .func (.func 40) #[] #[]] w fun e w' => (∃ r, e = .returned (.int .i64 r) ∧ decide (0 ≤ r) = !(ps.all Iv.ok)) ∧ Below w.heap.size w w' := by
 have O := ha.len
 go_enter Tryz.func86, Tryz.ntmps86
 go_wp2
 go_loopw [8] (fun i wr => ∃ k : Nat, k ≤ ps.length ∧ i = .int .i64 k ∧ Below w.heap.size w wr ∧ Hid (∀ j (B : j < ps.length), j < k → ps[j].ok = true)) (fun i _ => ps.length - (intOf i).toNat)
 case atStart => exact ⟨0, Nat.zero_le _, rfl, Below.refl _ _, fun j B h => absurd h (by omega)⟩
 case round =>
  obtain ⟨k, P, rfl, F, D⟩ := hrel
  by_cases hlt : k < ps.length
  · obtain ⟨b, o, Q, R, S, T, rfl, U, ⟨V, W, X, Y, a, d⟩, u0, u1⟩ := (ha.below F).at hlt
    have E := lodd_any u0 u1 (hs _ (List.getElem_mem hlt))
    have C : ps[k].ok = true ∨ ps[k].ok = false := by cases ps[k].ok <;> simp
    have J : Hid (ps[k].ok = true → ∀ j (B : j < ps.length), j < k + 1 → ps[j].ok = true) := fun hx j B hjk => by
     rcases Nat.lt_or_ge j k with h1 | h1
     · exact D.out j B h1
     · obtain rfl : j = k := by omega
       exact hx
    have K : Hid (ps[k].ok = false → ps.all Iv.ok = false) := fun hx => by
     cases hall : ps.all Iv.ok
     · rfl
     · have := List.all_eq_true.1 hall ps[k] (List.getElem_mem hlt)
       rw [this] at hx
       cases hx
    clear u0 u1 D
    generalize ps[k] = p at *
    rcases C with C | C
    all_goals
     rw [C] at E
     obtain ⟨M, I⟩ := hid2 E C
     clear E C
     go_wp2_with fail
     refine M.out.mono ?_
     rintro e g ⟨rfl, N⟩
     have G := from_ F N
     go_wp2
    · go_roundw
      case rel => exact ⟨k + 1, by omega, by go_num, G, hid (J.out I.out)⟩
      case measure => simp [intOf]; omega
    · go_ret
      exact ⟨⟨_, rfl, by rw [K.out I.out]; exact decide_eq_true (by omega)⟩, G⟩
  · obtain rfl : k = ps.length := by omega
    have H : ps.all Iv.ok = true := by
     rw [List.all_eq_true]
     intro p hp
     obtain ⟨j, B, rfl⟩ := List.getElem_of_mem hp
     exact D.out j B B
    have L := hid H
    clear H D
    go_wp2
    go_ret
    exact ⟨⟨_, rfl, by rw [L.out]; rfl⟩, F⟩
theorem lcontains_form {w : World} {ps : List Iv} (ha : IvsAt w Z A c ps) (hs : ∀ p ∈ ps, p.short) :
  Calls Tryz.prog 39 #[.slice A ps.length c, .func (.func 40) #[] #[]] w fun e w' => e = .returned (.bool (!(ps.all Iv.ok))) ∧ Below w.heap.size w w' := by
 have B := hid (lindex_form ha hs)
 have D := ha.len
 clear ha hs
 generalize ps.length = L at *
 generalize (ps.all Iv.ok) = R at *
 go_enter Tryz.func39, Tryz.ntmps39
 go_wp2_with fail
 refine B.out.mono ?_
 rintro e E ⟨⟨r, rfl, F⟩, C⟩
 go_wp2
 go_ret
 exact ⟨rfl, C⟩
def errF (ps : List Iv) : Int := if (1 ≤ ps.length ∧ ps.length ≤ 64) ∧ ps.all Iv.ok = true then 0 else 8
theorem lcheck_any {w : World} {ps : List Iv} (ha : IvsAt w Z A c ps) (hs : ∀ p ∈ ps, p.short) :
  Calls Tryz.prog 12 #[.slice A ps.length c] w fun e w' => e = .returned (.int .i64 (errF ps)) ∧ Below w.heap.size w w' := by
 have C := lcontains_form ha hs
 have H := ha.len
 by_cases h1 : ps.length < 1
 · have e : errF ps = 8 := by unfold errF; rw [if_neg (by omega)]
   rw [e]
   have G : decide ((ps.length : Int) < 1) = true := decide_eq_true (by omega)
   have D : ps.length = 0 := by omega
   rw [D] at G ⊢
   clear C ha hs e h1 H D
   go_enter Tryz.func12, Tryz.ntmps12
   go_wp2
   go_ret
   exact ⟨rfl, Below.refl _ _⟩
 · have G : decide ((ps.length : Int) < 1) = false := decide_eq_false (by omega)
   by_cases h2 : 64 < ps.length
   · have e : errF ps = 8 := by unfold errF; rw [if_neg (by omega)]
     rw [e]
     have D : decide ((64 : Int) < (ps.length : Int)) = true := decide_eq_true (by omega)
     have I : decide (64 < ps.length) = true := decide_eq_true h2
     clear C ha hs e
     generalize ps.length = L at *
     go_enter Tryz.func12, Tryz.ntmps12
     go_wp2
     go_ret
     exact ⟨rfl, Below.refl _ _⟩
   · have D : decide ((64 : Int) < (ps.length : Int)) = false := decide_eq_false (by omega)
     have I : decide (64 < ps.length) = false := decide_eq_false h2
     have B : ps.all Iv.ok = true ∨ ps.all Iv.ok = false := by cases ps.all Iv.ok <;> simp
     rcases B with B | B
     · have e : errF ps = 0 := by unfold errF; rw [if_pos ⟨by omega, B⟩]
       rw [e]
       rw [B] at C
       have E := hid C
       clear C ha hs e B
       generalize ps.length = L at *
       go_enter Tryz.func12, Tryz.ntmps12
       go_wp2_with fail
       refine E.out.mono ?_
       rintro e J ⟨rfl, F⟩
       go_wp2
       go_ret
       exact ⟨rfl, F⟩
     · have e : errF ps = 8 := by unfold errF; rw [if_neg (by rw [B]; simp)]
       rw [e]
       rw [B] at C
       have E := hid C
       clear C ha hs e B
       generalize ps.length = L at *
       go_enter Tryz.func12, Tryz.ntmps12
       go_wp2_with fail
       refine E.out.mono ?_
       rintro e J ⟨rfl, F⟩
       go_wp2
       go_ret
       exact ⟨rfl, F⟩
open Go.ChangeShapes Go.WideShapes Go.ChangeAt Go.RowKit
structure ItvT (P : Program) (t u v e : TypeId) (fs gs : Array Field) (f0 f1 g0 g1 : Field) : Prop where
 ht : P.underlying t = some (.struct fs)
 hn : P.cellsOf t = 6
 h0 : fs[0]? = some f0
 h1 : fs[1]? = some f1
 o0 : f0.offset = 0
 o1 : f1.offset = 3
 t0 : f0.type = u
 t1 : f1.type = u
 hu : P.underlying u = some (.struct gs)
 hm : P.cellsOf u = 3
 k0 : gs[0]? = some g0
 k1 : gs[1]? = some g1
 q0 : g0.offset = 0
 q1 : g1.offset = 1
 r0 : P.cellsOf g0.type = 1
 r1 : g1.type = v
 hb : P.underlying g0.type = some .bool
theorem some_at {α : Type} {xs : List α} {k n : Nat} (h : xs.length = n) (hk : k < n) : ∃ y, xs[k]? = some y := ⟨xs[k], List.getElem?_eq_getElem (by omega)⟩
theorem lt_of_at {fs : Array Field} {k : Nat} {f : Field} (h : fs[k]? = some f) : k < fs.size := by
 rcases Nat.lt_or_ge k fs.size with h1 | h1
 · exact h1
 · rw [Array.getElem?_eq_none (by omega)] at h; cases h
theorem open_boundC {H : Type} {enc : TypeId × Value → H} {P : Program} {t v e : TypeId} {fs gs ws : Array Field} {f0 f1 g0 g1 w0 w1 : Field} {x : DataW H × List MemPlace}
  (I : ItvT P t u v e fs gs f0 f1 g0 g1) (T : WholeT P v ws w0 w1 e) (hf : DataW.trod enc P W base (fun _ => true) held fuel u cs = some x) :
  ∃ n s B d l, cs = [.bool n, .bool s, .slice B (l : List Nat).length d] ∧ U64s W old B d l := by
 obtain ⟨M, n, _, _, F, G, J⟩ := DataW.trod_struct I.hu hf
 rw [I.hm] at F
 have A := J 0 g0 I.k0
 have C := J 1 g1 I.k1
 obtain ⟨a, b, c, rfl⟩ : ∃ a b c, cs = [a, b, c] := by
  match cs, F with
  | [a, b, c], _ => exact ⟨a, b, c, rfl⟩
 rw [I.q0, I.r0] at A
 rw [I.q1, I.r1, T.hn] at C
 simp at A C
 obtain ⟨N, K⟩ := some_at G (lt_of_at I.k0)
 obtain ⟨O, L⟩ := some_at G (lt_of_at I.k1)
 rw [K] at A
 rw [L] at C
 obtain ⟨s, D, _⟩ := DataW.trod_bool I.hb A
 obtain ⟨Q, R, l, E, B, d, rfl, hu⟩ := open_wholeC T C
 injection D with D _
 injection E with E h2
 injection h2 with h2 _
 subst D E h2
 exact ⟨_, _, _, _, _, rfl, hu⟩
theorem open_itvC {H : Type} {enc : TypeId × Value → H} {P : Program} {t v e : TypeId} {fs gs ws : Array Field} {f0 f1 g0 g1 w0 w1 : Field} {x : DataW H × List MemPlace}
  (I : ItvT P t u v e fs gs f0 f1 g0 g1) (T : WholeT P v ws w0 w1 e) (hf : DataW.trod enc P W base (fun _ => true) held fuel t cs = some x) :
  ∃ (p : Iv) (A : Option Addr) (a : Nat) (B : Option Addr) (b : Nat), cs = [.bool p.n0, .bool p.s0, .slice A p.l0.length a, .bool p.n1, .bool p.s1, .slice B p.l1.length b] ∧ U64s W old A a p.l0 ∧ U64s W old B b p.l1 := by
 obtain ⟨U, n, _, _, N, O, Q⟩ := DataW.trod_struct I.ht hf
 rw [I.hn] at N
 have C := Q 0 f0 I.h0
 have D := Q 1 f1 I.h1
 obtain ⟨E, F, G, J, K, L, rfl⟩ : ∃ E F G J K L, cs = [E, F, G, J, K, L] := by
  match cs, N with
  | [E, F, G, J, K, L], _ => exact ⟨E, F, G, J, K, L, rfl⟩
 rw [I.o0, I.t0, I.hm] at C
 rw [I.o1, I.t1, I.hm] at D
 simp at C D
 obtain ⟨V, R⟩ := some_at O (lt_of_at I.h0)
 obtain ⟨X, S⟩ := some_at O (lt_of_at I.h1)
 rw [R] at C
 rw [S] at D
 obtain ⟨n0, s0, A, a, l0, h1, u1⟩ := open_boundC I T C
 obtain ⟨n1, s1, B, b, l1, M, u2⟩ := open_boundC I T D
 injection h1 with h1 h3
 injection h3 with h3 h4
 injection h4 with h4 _
 injection M with M h5
 injection h5 with h5 h6
 injection h6 with h6 _
 subst h1 M h3 h4 h5 h6
 exact ⟨⟨n0, s0, l0, n1, s1, l1⟩, A, a, B, b, rfl, u1, u2⟩
theorem open_itvsC {H : Type} {enc : TypeId × Value → H} {P : Program} {t v e : TypeId} {fs gs ws : Array Field} {f0 f1 g0 g1 w0 w1 : Field} {x : DataW H × List MemPlace}
  (hv : P.underlying tv = some (.slice t)) (I : ItvT P t u v e fs gs f0 f1 g0 g1) (T : WholeT P v ws w0 w1 e) (hf : DataW.trod enc P W base (fun _ => true) held fuel tv cs = some x) :
  ∃ v ps, cs = [v] ∧ IsIvs W old v ps := by
 rcases DataW.trod_slice hv hf with ⟨E, _⟩ | ⟨a, len, cap, elems, rest, n, _, rfl, rfl, hb, hl, hm, hlen, hel, _, _⟩
 · exact ⟨_, [], E, none, 0, rfl, IvsAt.nil _ _⟩
 by_cases h0 : len = 0
 · subst h0
   exact ⟨_, [], rfl, some a, cap, rfl, by simp, by simpa [maxLen] using hm, fun h => absurd h (by simp)⟩
 have F : ∀ j, j < len → ∃ (p : Iv) (A : Option Addr) (c : Nat) (B : Option Addr) (d : Nat), (W.cell? ((a.add (j * 6)).add 0) = some (.bool p.n0) ∧ W.cell? ((a.add (j * 6)).add 1) = some (.bool p.s0) ∧ W.cell? ((a.add (j * 6)).add 2) = some (.slice A p.l0.length c) ∧ W.cell? ((a.add (j * 6)).add 3) = some (.bool p.n1) ∧ W.cell? ((a.add (j * 6)).add 4) = some (.bool p.s1) ∧ W.cell? ((a.add (j * 6)).add 5) = some (.slice B p.l1.length d)) ∧ U64s W old A c p.l0 ∧ U64s W old B d p.l1 := by
  intro j hjl
  have C := hel j hjl
  have Q : elems[j]? = some (elems[j]'(by omega)) := List.getElem?_eq_getElem (by omega)
  rw [Q, Option.bind_eq_some_iff] at C
  obtain ⟨X, E, U⟩ := C
  obtain ⟨p, A, c, B, d, rfl, u1, u2⟩ := open_itvC I T U
  rw [I.hn] at E
  obtain ⟨_, _, D⟩ := World.cells?_some E
  exact ⟨p, A, c, B, d, ⟨D 0 (by omega), D 1 (by omega), D 2 (by omega), D 3 (by omega), D 4 (by omega), D 5 (by omega)⟩, u1, u2⟩
 have G : a.spot = none := by
  obtain ⟨p, A, c, B, d, ⟨C, _⟩, _⟩ := F 0 (by omega)
  simpa [Addr.add] using World.cell?_spot C
 obtain ⟨b, o, spot⟩ := a
 simp only at G
 subst G
 obtain ⟨ps, V, J⟩ := list_of_each (R := fun j (p : Iv) => ∃ A0 d0 A1 d1, (W.cell? ⟨b, o + j * 6, none⟩ = some (.bool p.n0) ∧ W.cell? ⟨b, o + j * 6 + 1, none⟩ = some (.bool p.s0) ∧ W.cell? ⟨b, o + j * 6 + 2, none⟩ = some (.slice A0 p.l0.length d0) ∧ W.cell? ⟨b, o + j * 6 + 3, none⟩ = some (.bool p.n1) ∧ W.cell? ⟨b, o + j * 6 + 4, none⟩ = some (.bool p.s1) ∧ W.cell? ⟨b, o + j * 6 + 5, none⟩ = some (.slice A1 p.l1.length d1)) ∧ U64s W old A0 d0 p.l0 ∧ U64s W old A1 d1 p.l1) len (fun j hj => by
  obtain ⟨p, A, c, B, d, ⟨C, K, L, M, N, O⟩, u1, u2⟩ := F j hj
  simp only [Addr.add_lit] at C K L M N O
  exact ⟨p, A, c, B, d, ⟨C, K, L, M, N, O⟩, u1, u2⟩)
 have S : b < W.heap.size := by
  obtain ⟨_, _, _, _, ⟨C, _⟩, _⟩ := J 0 (by omega)
  exact lt_of_cell C
 exact ⟨_, ps, rfl, some ⟨b, o, none⟩, cap, by rw [V], by omega, by simpa [maxLen] using hm, fun _ => ⟨b, o, rfl, S, J⟩⟩
theorem open_itvs {H : Type} {enc : TypeId × Value → H} {P : Program} {b0 : Nat} {r : Reach} {t v e : TypeId} {fs gs ws : Array Field} {f0 f1 g0 g1 w0 w1 : Field} {x : Value} {d : DataW H} {p : List MemPlace}
  (hv : P.underlying tv = some (.slice t)) (I : ItvT P t u v e fs gs f0 f1 g0 g1) (T : WholeT P v ws w0 w1 e) (hw : Value.okWide P W r b0 tv x) (h : DataW.Trod enc P W base (fun _ => true) held tv x d p) : ∃ ps, IsIvs W old x ps := by
 obtain ⟨a, len, D, rfl⟩ := okWide_slice hv hw
 obtain ⟨E, B⟩ := h
 obtain ⟨F, ps, A, C⟩ := open_itvsC hv I T B
 simp [Value.cells] at A
 subst A
 exact ⟨ps, C⟩
theorem itvT_ : ∃ fs gs f0 f1 g0 g1, ItvT Tryz.prog 39 37 35 143 fs gs f0 f1 g0 g1 :=
 ⟨_, _, _, _, _, _, ⟨Tryz.underlying39, by kernel_rfl, rfl, rfl, rfl, rfl, rfl, rfl, Tryz.underlying37, by kernel_rfl, rfl, rfl, rfl, rfl, by kernel_rfl, rfl, Tryz.underlying4⟩⟩
def greatI (p : Iv) (K : Nat) : Bool := decide (K < p.l0.length) || decide (K < p.l1.length)
def greatF (ps : List Iv) (M K : Nat) : Bool := decide (M < ps.length) || ps.any fun p => greatI p K
theorem greatF_no {ps : List Iv} {M : Nat} (h : greatF ps M K = false) : ps.length ≤ M ∧ ∀ p ∈ ps, p.l0.length ≤ K ∧ p.l1.length ≤ K := by
 unfold greatF at h
 rw [Bool.or_eq_false_iff] at h
 refine ⟨by have := of_decide_eq_false h.1; omega, fun p hp => ?_⟩
 have A : greatI p K = false := by
  cases hx : greatI p K
  · rfl
  · have : (ps.any fun p => greatI p K) = true := List.any_eq_true.2 ⟨p, hp, hx⟩
    rw [this] at h
    cases h.2
 unfold greatI at A
 rw [Bool.or_eq_false_iff] at A
 have B := of_decide_eq_false A.1
 have C := of_decide_eq_false A.2
 omega
theorem great16_any {w : World} {n1 : Bool} {L0 L1 : Nat} {a b : Nat} (hK : K ≤ 1000) (h0 : L0 ≤ 9223372036854775807) (h1 : L1 ≤ 9223372036854775807) :
  Calls Tryz.prog 111 #[.agg #[.bool n0, .bool s0, .slice A L0 a, .bool n1, .bool s1, .slice B L1 b], .int .i64 (K : Int)] w fun e w' => e = .returned (.bool (decide (K < L0) || decide (K < L1))) ∧ Below w.heap.size w w' := by
 have D : Below w.heap.size w (w.alloc (.cells #[.bool n0, .bool s0, .slice A L0 a, .bool n1, .bool s1, .slice B L1 b] 39)) := (Below.refl _ w).alloc (Nat.le_refl _) _
 obtain ⟨F, G, H, I, J, L, _⟩ := Box6.new w (.bool n0) (.bool s0) (.slice A L0 a) (.bool n1) (.bool s1) (.slice B L1 b) 39
 rcases (by omega : K < L0 ∨ ¬ (K < L0)) with g0 | g0
 · have E : decide ((K : Int) < (L0 : Int)) = true := decide_eq_true (by omega)
   have C : decide (K < L0) = true := decide_eq_true g0
   rw [C, Bool.true_or]
   clear g0
   go_enter Tryz.func111, Tryz.ntmps111
   go_wp2
   go_ret
   exact ⟨rfl, D⟩
 · have E : decide ((K : Int) < (L0 : Int)) = false := decide_eq_false (by omega)
   have C : decide (K < L0) = false := decide_eq_false g0
   rw [C, Bool.false_or]
   clear g0
   go_enter Tryz.func111, Tryz.ntmps111
   go_wp2
   go_ret
   exact ⟨by simp, D⟩
theorem great17_any {w : World} {M : Nat} {ps : List Iv} (ha : IvsAt w Z A c ps) (hM : M ≤ 1000) (hK : K ≤ 1000) :
  Calls Tryz.prog 65 #[.slice A ps.length c, .int .i64 (M : Int), .int .i64 (K : Int)] w fun e w' => e = .returned (.bool (greatF ps M K)) ∧ Below w.heap.size w w' := by
 have q := ha.len
 by_cases hlM : M < ps.length
 · have V : decide ((M : Int) < (ps.length : Int)) = true := decide_eq_true (by omega)
   have G : decide (M < ps.length) = true := decide_eq_true hlM
   have E : greatF ps M K = true := by unfold greatF; rw [G, Bool.true_or]
   rw [E]
   clear ha E
   generalize ps.length = L at *
   go_enter Tryz.func65, Tryz.ntmps65
   go_wp2
   go_ret
   exact ⟨rfl, Below.refl _ _⟩
 · have V : decide ((M : Int) < (ps.length : Int)) = false := decide_eq_false (by omega)
   have G : decide (M < ps.length) = false := decide_eq_false hlM
   have E : greatF ps M K = ps.any fun p => greatI p K := by unfold greatF; rw [G, Bool.false_or]
   rw [E]
   clear E
   go_enter Tryz.func65, Tryz.ntmps65
   go_wp2
   go_loopw [7] (fun i wr => ∃ k : Nat, k ≤ ps.length ∧ i = .int .i64 k ∧ Below w.heap.size w wr ∧ Hid (∀ j (C : j < ps.length), j < k → greatI ps[j] K = false)) (fun i _ => ps.length - (intOf i).toNat)
   case atStart => exact ⟨0, Nat.zero_le _, rfl, Below.refl _ _, fun j C h => absurd h (by omega)⟩
   case round =>
    obtain ⟨k, r, rfl, I, F⟩ := hrel
    by_cases hlt : k < ps.length
    · obtain ⟨b, o, P, Q, R, S, rfl, s, ⟨t, u, v, x, y, z⟩, u0, u1⟩ := (ha.below I).at hlt
      have J := great16_any (w := wr) (n0 := ps[k].n0) (s0 := ps[k].s0) (n1 := ps[k].n1) (s1 := ps[k].s1) (L0 := ps[k].l0.length) (L1 := ps[k].l1.length) (A := P) (B := R) (a := Q) (b := S) hK u0.len u1.len
      have H : Calls Tryz.prog 111 #[.agg #[.bool ps[k].n0, .bool ps[k].s0, .slice P ps[k].l0.length Q, .bool ps[k].n1, .bool ps[k].s1, .slice R ps[k].l1.length S], .int .i64 (K : Int)] wr fun e w' => e = .returned (.bool (greatI ps[k] K)) ∧ Below wr.heap.size wr w' := J
      have D : greatI ps[k] K = true ∨ greatI ps[k] K = false := by cases greatI ps[k] K <;> simp
      have W : Hid (greatI ps[k] K = false → ∀ j (C : j < ps.length), j < k + 1 → greatI ps[j] K = false) := fun hx j C hjk => by
       rcases Nat.lt_or_ge j k with h1 | h1
       · exact F.out j C h1
       · obtain rfl : j = k := by omega
         exact hx
      have X : Hid (greatI ps[k] K = true → (ps.any fun p => greatI p K) = true) := fun hx => List.any_eq_true.2 ⟨ps[k], List.getElem_mem hlt, hx⟩
      clear u0 u1 F J
      generalize ps[k] = p at *
      rcases D with D | D
      all_goals
       rw [D] at H
       obtain ⟨d, T⟩ := hid2 H D
       clear H D
       go_wp2_with fail
       refine d.out.mono ?_
       rintro e w1 ⟨rfl, g⟩
       have N := from_ I g
       go_wp2
      · go_ret
        rw [X.out T.out]
        exact ⟨rfl, N⟩
      · go_roundw
        case rel => exact ⟨k + 1, by omega, by go_num, N, hid (W.out T.out)⟩
        case measure => simp [intOf]; omega
    · obtain rfl : k = ps.length := by omega
      have O : (ps.any fun p => greatI p K) = false := by
       cases hx : (ps.any fun p => greatI p K)
       · rfl
       · obtain ⟨p, m, U⟩ := List.any_eq_true.1 hx
         obtain ⟨j, C, rfl⟩ := List.getElem_of_mem m
         rw [F.out j C C] at U
         cases U
      have Y := hid O
      clear O F
      go_wp2
      go_ret
      rw [Y.out]
      exact ⟨rfl, I⟩
theorem Nm.enc {l : List Nat} (h : Nm x s l) : okI s l = true ∧ zof s l = x := by
 obtain ⟨rfl, rfl⟩ := h
 refine ⟨?_, zof_z x⟩
 unfold okI
 rw [good_limbs]
 by_cases hx : x < 0
 · have : 0 < (limbs x.natAbs).length := len_pos.2 (by omega)
   simp [hx]
   intro h2
   rw [h2] at this
   simp at this
 · simp [hx]
end Go.Proofs.YtdncgncijbnjpaaGreat
