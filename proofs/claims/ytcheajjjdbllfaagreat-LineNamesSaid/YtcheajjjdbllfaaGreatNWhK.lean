/- div.Word at any words. No conditions but bounds on lengths. -/
import Derived.RangeFuncNested
import Derived.RangeFuncBound
import Derived.RangeFuncCalls
import Derived.RangeFuncLeaves
import Derived.RangeFuncBox
import Derived.Shelf.Abstract
import Derived.Shelf.RegionOpen
import Derived.OwnWalkIn
import Derived.TacticsInMore
import Derived.LoopNIn
import Derived.LoopIn
import Derived.BigRegionIn
import Derived.OrdersHeld
import Derived.Stop.RegionWithIn
import Derived.Test.YtcheajjjdbllfaaGreatNCmpB
import Derived.Test.YtcheajjjdbllfaaGreatNDivL
import Derived.Test.YtcheajjjdbllfaaGreatNFenceR
import Derived.Test.YtcheajjjdbllfaaGreatNWhC
import Derived.Test.YtcheajjjdbllfaaGreatNWhF
set_option linter.unusedVariables false
set_option linter.unusedSimpArgs false
set_option maxRecDepth 100000
set_option maxHeartbeats 40000000
namespace Go.Proofs.YtcheajjjdbllfaaGreat
open Go.Lib (hid)
open Go.RowKit Go.Shelf
variable {Y Z : Zone} {a b : Value} {m : Nat} {w : World}
theorem wpListIn_make_full {F : Fence} {n : Nat} {P : Program} (w : World) {ops : Array Oper} {rest : List Oper} {o : Oper} {a : Act} {Q : Exit → Act → World → Prop}
  (hg : o.guard = none) (l c : Operand) (t : TypeId) (hop : o.op = Op.makeSlice t l c)
  (base : Nat) (e : TypeId) (i : TypeInfo) (z : Value) (size : Nat) (h1 : P.underlying t = some (.slice e)) (h2 : P.info? e = some i) (h3 : i.zero = some z) (h4 : i.size = size)
  (kl kc : IntKind) (L C : Int) (m : Nat) (hl : a.eval l = .int kl L) (hc : a.eval c = .int kc C) (hL : L = (m : Int)) (hC : C = (m : Int)) (b2 : i.bytes * m ≤ 281474976710656) (b3 : m ≤ maxLen) (b4 : base ≤ w.heap.size)
  (hK : ∀ w', w'.ownsRow base e size (.slice (some ⟨w.heap.size, 0, none⟩) m m) m (madeCells z.cells (m * size)).toList → w.grownBy w' none → wpListIn F n P ops Q rest (a.put o.dst (.slice (some ⟨w.heap.size, 0, none⟩) m m)) w') :
  wpListIn F n P ops Q (o :: rest) a w := by
 refine wpListIn_plain hg fun K hK' => ?_
 obtain ⟨w', hrun, r1, r2⟩ := run_make_full (P := P) w base t e i z size h1 h2 h3 h4 kl kc m b2 b3 b4
 subst hL
 subst hC
 unfold Oper.wpIn
 refine ⟨?_, ?_⟩
 · simp [Oper.about, hop]
 · rw [Oper.semAt_plain F _ _ (by rw [hop]; intro c hc'; cases hc')]
   simp [execOp, hop, hl, hc, hrun, Result.andThen]
   exact hK' _ _ (hK w' r1 r2)
theorem U64s.grown {W W' : World} {row : Option Nat} {A : Option Addr} {c B : Nat} {l : List Nat} (h : U64s W Z A c l) (hg : W.grownBy W' row) (hr : ∀ r, row = some r → B ≤ r) (hZ : ∀ b, Z.blk b → b < B) : U64s W' Z A c l :=
 h.keep fun b hb hl => hg.block b hl (fun e => by have := hr b e.symm; have := hZ b hb; omega)
theorem three_boxes {w4 : World} {x y z : Value} {t1 t2 t3 : TypeId} (hg : (((w.alloc (.cells #[x] t1)).alloc (.cells #[y] t2)).alloc (.cells #[z] t3)).grownBy w4 none) :
  Boxed w4 w.heap.size t1 x ∧ Boxed w4 (w.heap.size + 1) t2 y ∧ Boxed w4 (w.heap.size + 1 + 1) t3 z ∧ Below w.heap.size w w4 ∧ w.heap.size + 3 ≤ w4.heap.size := by
 have b1 := (((Boxed.new w t1 x).alloc (.cells #[y] t2)).alloc (.cells #[z] t3)).kept hg (by simp)
 have b2 := ((Boxed.new (w.alloc (.cells #[x] t1)) t2 y).alloc (.cells #[z] t3)).kept hg (by simp)
 have b3 := (Boxed.new ((w.alloc (.cells #[x] t1)).alloc (.cells #[y] t2)) t3 z).kept hg (by simp)
 simp only [World.size_alloc] at b2 b3
 refine ⟨b1, b2, b3, ((((Below.refl _ w).alloc (Nat.le_refl _) _).alloc (by simp) _).alloc (by simp; omega) _).grown hg (by simp; omega) (fun k h => by cases h), ?_⟩
 have := hg.size
 simpa using this
section
attribute [local go_sem] Oper.semAt_some
theorem dword_good {w : World} {Z : Zone} {a : Value} {m y : Nat} (ha : IsN w Z a m) (hy0 : 0 < y) (hy : y < 18446744073709551616) (hl : (limbs m).length ≤ 20000000000) :
  Calls Tryz.prog 150 #[a, .int .u64 (y : Int)] w fun e w' => ∃ q, e = .returned (.tuple #[q, .int .u64 ((m % y : Nat) : Int), .int .i64 0]) ∧ IsN w' (new w.heap.size) q (m / y) ∧ Below w.heap.size w w' := by
 have hck := fun (w1 : World) (h : Below w.heap.size w w1) => check_goodN (ha.below h)
 have hsm := small_limbs m
 have hvm := val_limbs m
 obtain ⟨A, ca, rfl, hu⟩ := ha
 obtain ⟨i0, hi, hz0, hz1, hz2⟩ := info_parts Tryz.info76
 generalize limbs m = l at *
 have hd0 : ((y : Int) == 0) = false := beq_eq_false_iff_ne.2 (by omega)
 obtain ⟨Hck, Hvm⟩ := hid2 hck hvm
 clear hck hvm
 have hwf : ∀ f, Fence.wide.fn f := fun _ => trivial
 refine (callsIn_wide (n := 3)).1 ?_
 refine callsIn_of_wp_marks Tryz.func150 rfl trivial ?_ rfl
 simp only [Tryz.ntmps150, List.size_toArray, List.length_cons, List.length_nil, Nat.reduceAdd, Nat.reduceSub, Array.replicate_succ, Array.replicate_zero, List.push_toArray, List.append_toArray, List.nil_append, List.cons_append]
 have hb3 : ∀ o1 o2 o3, Below w.heap.size w (((w.alloc o1).alloc o2).alloc o3) := fun o1 o2 o3 => (((Below.refl _ w).alloc (Nat.le_refl _) _).alloc (by simp) _).alloc (by simp; omega) _
 have Hb3 := hid hb3
 clear hb3
 gi_wp2_with (first
  | (gi_at_call 130; refine (callsIn_wide.2 (Hck.out _ (Hb3.out _ _ _))).mono ?_; rintro e w' ⟨rfl, rfl⟩)
  | (gi_at_make; go_loud (refine wpListIn_make_full _ rfl _ _ 23 rfl w.heap.size 76 i0 (.int .u64 0) 1 Tryz.underlying23 hi hz0 hz1 .i64 .i64 _ _ l.length rfl rfl rfl rfl (by rw [hz2]; omega) (by simp only [maxLen]; omega) (by simp; omega) ?_); intro w4 hown hgrow; obtain ⟨x1, x2, x3, hB4, hs4⟩ := three_boxes hgrow; have y1 := x1.cell; have y2 := x2.cell; have y3 := x3.cell; have f1 := x1.frozen; have f2 := x2.frozen; have f3 := x3.frozen)
  | (gi_at_call 161; refine (callsIn_wide.2 (back_any _ _ _ _)).mono ?_; rintro e w' ⟨rfl, rfl⟩))
 have hcells : (madeCells (Value.int .u64 0).cells (l.length * 1)).toList = (List.replicate l.length 0).map fun x : Nat => Value.int .u64 (x : Int) := by
  rw [Nat.mul_one, List.map_replicate]
  simpa [Value.cells] using toList_madeCells_one (.int .u64 0) l.length
 rw [hcells] at hown
 simp only [World.size_alloc] at hown
 have hrow := (isU_after (B := w.heap.size) (Small.replicate0 _) (by simp) hown (Nat.le_refl _)).only_ trivial
 have hlt4 : w.heap.size + 1 + 1 + 1 < w4.heap.size := (hown.lt _ rfl).2
 obtain ⟨v, hv⟩ : ∃ v, v = Value.slice (some ⟨w.heap.size + 1 + 1 + 1, 0, none⟩) l.length l.length := ⟨_, rfl⟩
 have hJ : Just (w.heap.size + 1) w4 (w4.setCell ⟨w.heap.size + 1, 0, none⟩ v) := (Just.refl _ _).setCell 0 v
 have hal : ∀ (W : World) o, Below W.heap.size W (W.alloc o) := fun W o => (Below.refl _ W).alloc (Nat.le_refl _) _
 have hrow0 := (hJ.words (show ¬ (only (w.heap.size + 1 + 1 + 1)).blk (w.heap.size + 1) from fun h => by have h1 : w.heap.size + 1 = w.heap.size + 1 + 1 + 1 := h; omega) hrow).below (hal _ (.cells #[.slice A l.length ca] 23))
 have hB0 : Below w.heap.size w ((w4.setCell ⟨w.heap.size + 1, 0, none⟩ v).alloc (.cells #[.slice A l.length ca] 23)) := (hB4.trans (hJ.below (by omega) hB4.size)).alloc (by rw [show (w4.setCell ⟨w.heap.size + 1, 0, none⟩ v).heap.size = w4.heap.size by simp [World.setCell]]; omega) _
 have bW := (x1.other (B' := w.heap.size + 1) (by omega) v).alloc (.cells #[.slice A l.length ca] 23)
 have bQ := (x2.set v).alloc (.cells #[.slice A l.length ca] 23)
 have bR := (x3.other (B' := w.heap.size + 1) (by omega) v).alloc (.cells #[.slice A l.length ca] 23)
 have bA := Boxed.new (w4.setCell ⟨w.heap.size + 1, 0, none⟩ v) 23 (.slice A l.length ca)
 rw [show (w4.setCell ⟨w.heap.size + 1, 0, none⟩ v).heap.size = w4.heap.size by simp [World.setCell]] at bA
 have hsz : ((w4.setCell ⟨w.heap.size + 1, 0, none⟩ v).alloc (.cells #[.slice A l.length ca] 23)).heap.size = w4.heap.size + 1 := by simp [World.setCell]
 rw [← hv]
 clear hcells hown hgrow hrow hJ y1 y2 y3 f1 f2 f3 x1 x2 x3 hal hB4
 generalize (w4.setCell ⟨w.heap.size + 1, 0, none⟩ v).alloc (.cells #[.slice A l.length ca] 23) = W0 at *
 obtain ⟨z4, hz4⟩ : ∃ z4, z4 = w4.heap.size := ⟨_, rfl⟩
 rw [← hz4] at hsz hlt4 hs4 bA ⊢
 clear hz4
 obtain ⟨S, hS⟩ : ∃ S : Nat → Prop, S = fun k => k < z4 + 1 ∧ k ≠ w.heap.size + 1 + 1 ∧ k ≠ w.heap.size + 1 + 1 + 1 := ⟨_, rfl⟩
 have hSi : ∀ k, S k ↔ (k < z4 + 1 ∧ k ≠ w.heap.size + 1 + 1 ∧ k ≠ w.heap.size + 1 + 1 + 1) := fun k => by rw [hS]
 clear hS
 have hSb : ∀ b, b < w.heap.size → S b := fun b hb => (hSi _).2 ⟨by omega, by omega, by omega⟩
 obtain ⟨Hsz, Hv⟩ := hid2 hsz hv
 have hszle : W0.heap.size ≤ z4 + 1 := by omega
 have hszge : z4 + 1 ≤ W0.heap.size := by omega
 clear hsz hv
 have hkK : ∀ (W : World) (l : Nat) (o o' : Obj), W0.heap.size ≤ l → W.heap[l]? = some o → o.isCells = false → o.isWalk = false → KeptAt S W (W.putObj l o') := fun W l o o' hl _ _ _ k hk =>
  World.putObj_heap_other (fun e => by have := (hSi k).1 hk; omega)
 have ua : U64s W0 ⟨S, False⟩ A ca l := (hu.zone (Y := ⟨S, False⟩) (fun b _ hb => hSb b hb) (fun h => h.elim)).below hB0
 have hu' := hu.len
 refine wpIn_rangeFunc_ownG rfl (by omega) (gf := 164) (lb := #[.pointer (some ⟨z4, 0, none⟩)]) rfl trivial (enters_of Tryz.func164 (by kernel_rfl) rfl)
  (back_stops Fence.wide (3 - 1) trivial rfl (by omega) z4 S ((hSi _).2 ⟨by omega, by omega, by omega⟩) A ca l W0 (fun k hk => by have := (hSi k).1 hk; omega) bA.cell ua)
  (fun h k => KeptAt.trans h k) hkK (Below.refl _ _) (fun _ => rfl)
  (fun pre W => (∃ (qs : List Nat) (r : Nat), (Hid (r < y ∧ qs.length = l.length ∧ Small qs ∧ (pre.map (·.1) = backs l.length pre.length → WordI l y pre.length qs r))) ∧ Boxed W (w.heap.size + 1 + 1) 76 (.int .u64 (r : Int)) ∧ U64s W (only (w.heap.size + 1 + 1 + 1)) (some ⟨w.heap.size + 1 + 1 + 1, 0, none⟩) l.length qs) ∧ ((KeptAt S W0 W ∧ W0.heap.size ≤ W.heap.size) ∧ Below w.heap.size w W))
  (fun c pre W => False ∧ ((KeptAt S W0 W ∧ W0.heap.size ≤ W.heap.size) ∧ Below w.heap.size w W))
  (OwnFrom.and (fun s X Y row hs hg hr => by
   obtain ⟨qs, r, h1, h2, h3⟩ := hs
   exact ⟨qs, r, h1, h2.kept hg (fun e => by have := (hr _ e.symm).1; omega), h3.grown hg (fun r h => (hr r h).1) (fun b hb => by have h1 : b = w.heap.size + 1 + 1 + 1 := hb; omega)⟩) (OwnFrom.and (keptAt_own (fun k hk => by have := (hSi k).1 hk; omega)) (ownFrom_below (Nat.le_refl _) (by omega))))
  (fun c => OwnFrom.and (ownFrom_pure _ _) (OwnFrom.and (keptAt_own (fun k hk => by have := (hSi k).1 hk; omega)) (ownFrom_below (Nat.le_refl _) (by omega))))
  ⟨⟨List.replicate l.length 0, 0, hid ⟨hy0, by simp, Small.replicate0 _, fun _ => WordI.start hy0⟩, bR, hrow0⟩, ⟨KeptAt.refl _ _, Nat.le_refl _⟩, hB0⟩
  (fun x => { tmps := #[.slice A l.length ca, .int .u64 (y : Int), undef, .pointer (some ⟨w.heap.size, 0, none⟩), .pointer (some ⟨w.heap.size + 1, 0, none⟩), .pointer (some ⟨w.heap.size + 1 + 1, 0, none⟩), .int .i64 0, .int .i64 (x.1 : Int), .int .u64 ((l[x.1]'x.2 : Nat) : Int), .bool false,
   .slice A l.length ca, .int .i64 0, .bool false, .bool false, .int .u64 (y : Int), .bool false, .slice A l.length ca, .int .i64 (l.length : Int), v, .slice A l.length ca, .func (.func 164) #[] #[.pointer (some ⟨z4, 0, none⟩)], .int .i64 (x.1 : Int), .int .u64 ((l[x.1]'x.2 : Nat) : Int), undef, undef, undef, undef, undef, undef, undef, undef, undef, undef, undef, undef, undef], defers := [] }) ?assign ?body ?done ?stop
 case assign =>
  intro l x W K hK
  gi_wp2
  exact hK
 case body =>
  rintro lp pre ⟨i, hi⟩ W ⟨⟨qs, r, hst, hbx, hrow⟩, ⟨hk, hle⟩, hB⟩ hlt
  obtain ⟨hry, hql, hqs, hst⟩ := hst.out
  have hcW := (hk.cell (p := ⟨w.heap.size, 0, none⟩) ((hSi _).2 ⟨by show w.heap.size < _; omega, by show w.heap.size ≠ _; omega, by show w.heap.size ≠ _; omega⟩)).trans bW.cell
  have hcQ := (hk.cell (p := ⟨w.heap.size + 1, 0, none⟩) ((hSi _).2 ⟨by show w.heap.size + 1 < _; omega, by show w.heap.size + 1 ≠ _; omega, by show w.heap.size + 1 ≠ _; omega⟩)).trans bQ.cell
  have hcR := hbx.cell
  have hfR := hbx.frozen
  have hiq : i < qs.length := by omega
  have hcell := hrow.cellAt hiq
  have hfr := hrow.frozenAt trivial (by omega) i
  rw [Nat.zero_add] at hcell hfr
  have hxl := hsm.get hi
  have hqw : (r * 18446744073709551616 + l[i]) / y < 18446744073709551616 := by
   refine Nat.div_lt_of_lt_mul ?_
   have h3 : (r + 1) * 18446744073709551616 ≤ y * 18446744073709551616 := Nat.mul_le_mul_right _ hry
   omega
  have hstep : ((pre ++ [(⟨i, hi⟩ : Place l)]).map (·.1) = backs l.length (pre ++ [(⟨i, hi⟩ : Place l)]).length → WordI l y (pre ++ [(⟨i, hi⟩ : Place l)]).length (qs.set i ((r * 18446744073709551616 + l[i]) / y)) ((r * 18446744073709551616 + l[i]) % y)) := fun e => by
   rw [List.length_append, List.length_singleton, List.map_append, backs_succ] at e
   obtain ⟨e1, e2⟩ := List.append_inj' e rfl
   have e3 : i = l.length - 1 - pre.length := by simpa using e2
   obtain ⟨_, h5⟩ := (hst e1).step hsm hy hlt
   rw [List.length_append, List.length_singleton]
   subst e3
   exact h5
  have hdiv := fun w => div64_any w hry hxl hy
  have hrn : (r * 18446744073709551616 + l[i]) % y < y := Nat.mod_lt _ hy0
  have hrs := hrow.store hiq hqw
  rw [Nat.zero_add] at hrs
  have Hst : Hid ((r * 18446744073709551616 + l[i]) % y < y ∧ (qs.set i ((r * 18446744073709551616 + l[i]) / y)).length = l.length ∧ Small (qs.set i ((r * 18446744073709551616 + l[i]) / y)) ∧ ((pre ++ [(⟨i, hi⟩ : Place l)]).map (·.1) = backs l.length (pre ++ [(⟨i, hi⟩ : Place l)]).length → WordI l y (pre ++ [(⟨i, hi⟩ : Place l)]).length (qs.set i ((r * 18446744073709551616 + l[i]) / y)) ((r * 18446744073709551616 + l[i]) % y))) := ⟨hrn, by simpa using hql, small_set hqs _ _ hqw, hstep⟩
  have Hdiv := hid hdiv
  clear hstep hdiv hst hql
  generalize (r * 18446744073709551616 + l[i]) / y = q1 at *
  generalize (r * 18446744073709551616 + l[i]) % y = r1 at *
  generalize l[i] = x at *
  rw [Hv.out] at hcQ
  have hsW : w.heap.size + 1 + 1 + 1 < W.heap.size := by omega
  have dR := (show W.drew.cell? ⟨w.heap.size + 1 + 1, 0, none⟩ = _ from hcR)
  have dQ := (show W.drew.cell? ⟨w.heap.size + 1, 0, none⟩ = _ from hcQ)
  have dW := (show W.drew.cell? ⟨w.heap.size, 0, none⟩ = _ from hcW)
  have dX := (show W.drew.cell? ⟨w.heap.size + 1 + 1 + 1, i, none⟩ = _ from hcell)
  have eR := (show W.drew.frozen? ⟨w.heap.size + 1 + 1, 0, none⟩ = _ from hfR)
  have eX := (show W.drew.frozen? ⟨w.heap.size + 1 + 1 + 1, i, none⟩ = _ from hfr)
  have hil : i < l.length := hi
  obtain ⟨HSi, Hrow, Hbx, Hk, HB⟩ := hid5 hSi hrow hbx hk hB
  clear hSi hSb hkK hu ua hu' hB0 bW bQ bR bA hrow0 Hck Hb3 hrs hk hB hcW hcQ hcR hfR hcell hfr hrow hbx hsm hz0 hz1 hz2 hd0 hqs
  gi_wp2
  refine wpIn_region_heldR (fun w' => w'.cell? ⟨w.heap.size, 0, none⟩ = some (.int .u64 (y : Int)) ∧ w'.cell? ⟨w.heap.size + 1, 0, none⟩ = some (.slice (some ⟨w.heap.size + 1 + 1 + 1, 0, none⟩) l.length l.length)) (by kernel_rfl) (by kernel_rfl) ?hL ?_
  case hL =>
   rintro ⟨a, w', h⟩
   exact h
  have HS0 := And.intro dW dQ
  show wpAnyH _ _ _ _ _ 12 _ _ _
  refine wpAnyH_take (i := 0) (v := ?v0) rfl (by kernel_rfl) (by kernel_rfl) (by kernel_rfl) (fun _ _ _ h => h) (Or.inl ⟨by rfl, ?y0⟩) HS0 ?r0
  case y0 =>
   rintro w' ⟨h1, h2⟩
   go_simp
   try with_reducible rfl
  refine wpAnyH_take (i := 1) (v := ?v1) rfl (by kernel_rfl) (by kernel_rfl) (by kernel_rfl) (fun _ _ _ h => h) (Or.inl ⟨by rfl, ?y1⟩) HS0 ?r1
  case y1 =>
   rintro w' ⟨h1, h2⟩
   go_simp
   try with_reducible rfl
  refine wpAnyH_take (i := 3) (v := ?v3) rfl (by kernel_rfl) (by kernel_rfl) (by kernel_rfl) (fun _ _ _ h => h) (Or.inl ⟨by rfl, ?y3⟩) HS0 ?r3
  case y3 =>
   rintro w' ⟨h1, h2⟩
   go_simp
   try with_reducible rfl
  refine wpAnyH_take (i := 4) (v := ?v4) rfl (by kernel_rfl) (by kernel_rfl) (by kernel_rfl) (fun _ _ _ h => h) (Or.inl ⟨by rfl, ?y4⟩) HS0 ?r4
  case y4 =>
   rintro w' ⟨h1, h2⟩
   go_simp
   try with_reducible rfl
  refine anyH_one (i := 2) (by kernel_rfl) (wpOp_step rfl (by rfl) fun K hK => ?_)
  go_simp
  refine hK _ _ ⟨HS0, ?_⟩
  clear hK K
  refine anyH_one (i := 5) (by kernel_rfl) (wpOp_step rfl (by rfl) fun K hK => ?_)
  go_simp
  refine (Hdiv.out _).mono ?_
  rintro e w2 ⟨rfl, hb2⟩
  have kQ := keepC hb2 dQ
  have kW := keepC hb2 dW
  have kR := keepC hb2 dR
  have kX := keepC hb2 dX
  have lR := keepF hb2 (by show _ < W.heap.size; omega) eR
  have lX := keepF hb2 (by show _ < W.heap.size; omega) eX
  refine hK _ _ ⟨And.intro kW kQ, ?_⟩
  clear hK K
  have HS2 := And.intro kW kQ
  refine wpAnyH_take (i := 6) (v := ?v6) rfl (by kernel_rfl) (by kernel_rfl) (by kernel_rfl) (fun _ _ _ h => h) (Or.inl ⟨by rfl, ?y6⟩) HS2 ?r6
  case y6 =>
   rintro w' ⟨h1, h2⟩
   go_simp
   try with_reducible rfl
  refine wpAnyH_take (i := 7) (v := ?v7) rfl (by kernel_rfl) (by kernel_rfl) (by kernel_rfl) (fun _ _ _ h => h) (Or.inl ⟨by rfl, ?y7⟩) HS2 ?r7
  case y7 =>
   rintro w' ⟨h1, h2⟩
   go_simp
   try with_reducible rfl
  refine wpAnyH_take (i := 8) (v := ?v8) rfl (by kernel_rfl) (by kernel_rfl) (by kernel_rfl) (fun _ _ _ h => h) (Or.inl ⟨by rfl, ?y8⟩) HS2 ?r8
  case y8 =>
   rintro w' ⟨h1, h2⟩
   go_simp
   try with_reducible rfl
  refine wpAnyH_take (i := 9) (v := ?v9) rfl (by kernel_rfl) (by kernel_rfl) (by kernel_rfl) (fun _ _ _ h => h) (Or.inl ⟨by rfl, ?y9⟩) HS2 ?r9
  case y9 =>
   rintro w' ⟨h1, h2⟩
   go_simp
   try with_reducible rfl
  refine anyH_one (i := 10) (by kernel_rfl) (wpOp_step rfl (by rfl) fun K hK => ?_)
  go_simp
  have kW3 := st1 (j := i) (x := .int .u64 (q1 : Int)) kW (show w.heap.size + 1 + 1 + 1 ≠ w.heap.size by omega)
  have kQ3 := st1 (j := i) (x := .int .u64 (q1 : Int)) kQ (show w.heap.size + 1 + 1 + 1 ≠ w.heap.size + 1 by omega)
  have kR3 := st1 (j := i) (x := .int .u64 (q1 : Int)) kR (show w.heap.size + 1 + 1 + 1 ≠ w.heap.size + 1 + 1 by omega)
  have lR3 := fz1 (b := w.heap.size + 1 + 1 + 1) (j := i) (x := .int .u64 (q1 : Int)) lR
  refine hK _ _ ⟨And.intro kW3 kQ3, ?_⟩
  clear hK K
  refine anyH_one (i := 11) (by kernel_rfl) (wpOp_step rfl (by rfl) fun K hK => ?_)
  go_simp
  refine hK _ _ ⟨And.intro (st1 kW3 (by omega)) (st1 kQ3 (by omega)), ?_⟩
  clear hK K
  refine wpAnyH_done (by kernel_rfl) ?_ _
  have hbW : Below W.heap.size W w2 := (((Below.refl _ W).drew).trans hb2)
  have hbx2 := ((Boxed.store_ (b := w.heap.size + 1 + 1 + 1) (j := i) (u := .int .u64 (q1 : Int)) (Boxed.below_ Hbx.out hbW) (by omega)).set (.int .u64 (r1 : Int)))
  have hrow2 := (((Hrow.out.below hbW).store hiq hqw))
  rw [Nat.zero_add] at hrow2
  have hrow3 := ((Just.refl (w.heap.size + 1 + 1) (w2.setCell ⟨w.heap.size + 1 + 1 + 1, i, none⟩ (.int .u64 (q1 : Int)))).setCell 0 (.int .u64 (r1 : Int))).words (show ¬ (only (w.heap.size + 1 + 1 + 1)).blk (w.heap.size + 1 + 1) from fun h => by have h1 : w.heap.size + 1 + 1 = w.heap.size + 1 + 1 + 1 := h; omega) hrow2
  have hkS : KeptAt S W ((w2.setCell ⟨w.heap.size + 1 + 1 + 1, i, none⟩ (.int .u64 (q1 : Int))).setCell ⟨w.heap.size + 1 + 1, 0, none⟩ (.int .u64 (r1 : Int))) := fun k hk => by
   have h := (HSi.out k).1 hk
   rw [Below.heap_setCell _ _ _ _ (show k ≠ w.heap.size + 1 + 1 by omega), Below.heap_setCell _ _ _ _ (show k ≠ w.heap.size + 1 + 1 + 1 by omega)]
   exact hbW.block k (by omega)
  refine ⟨(((keepsOthers_below hbW).trans (KeepsOthers.setCell _ _ _)).trans (KeepsOthers.setCell _ _ _)).from _, hkS, ⟨_, _, Hst, hbx2, hrow3⟩, ⟨Hk.out.trans hkS, ?_⟩, ?_⟩
  · have := hbW.size
    simp only [World.setCell, Array.size_modify]
    omega
  · exact ((HB.out.trans (hbW.mono (by omega))).setCell (p := ⟨w.heap.size + 1 + 1 + 1, i, none⟩) (show w.heap.size ≤ w.heap.size + 1 + 1 + 1 by omega) _).setCell (p := ⟨w.heap.size + 1 + 1, 0, none⟩) (show w.heap.size ≤ w.heap.size + 1 + 1 by omega) _
 case done =>
  rintro D ys W hD hys ⟨⟨qs, r, hst, hbx, hrow⟩, ⟨hk, hle⟩, hB⟩ hK
  obtain ⟨hry, hql, hqs, hst⟩ := hst.out
  have hlen : ys.length = l.length := by
   have := congrArg List.length hys
   simpa [backs, upto] using this
  have hfin := (hst (by rw [hlen]; exact hys))
  rw [hlen] at hfin
  obtain ⟨hvq, hvr⟩ := hfin.done hsm
  rw [Hvm.out] at hvq hvr
  have hcQ := (hk.cell (p := ⟨w.heap.size + 1, 0, none⟩) ((hSi _).2 ⟨by show w.heap.size + 1 < _; omega, by show w.heap.size + 1 ≠ _; omega, by show w.heap.size + 1 ≠ _; omega⟩)).trans bQ.cell
  have hbQ : Boxed W (w.heap.size + 1) 23 v := (hk _ ((hSi _).2 ⟨by omega, by omega, by omega⟩)).trans bQ
  have hfQ := hbQ.frozen
  have hcR := hbx.cell
  have hfR := hbx.frozen
  rw [Hv.out] at hcQ
  have htr := fun (W' : World) (h : Below W.heap.size W W') => dtrim_any (hrow.below h)
  rw [hql] at htr
  obtain ⟨Htr, Hvq, Hvr, Hrow, HK, HB⟩ := hid6 htr hvq hvr hrow hK hB
  clear htr hvq hvr hrow hK hfin hst hSi hSb hkK hu ua hB0 bW bQ bR bA hrow0 Hck Hb3 hk hB hys hqs
  gi_wp2
  refine wpIn_wide.2 ?_
  have eQ := (show W.drew.cell? ⟨w.heap.size + 1, 0, none⟩ = _ from hcQ)
  have eR := (show W.drew.cell? ⟨w.heap.size + 1 + 1, 0, none⟩ = _ from hcR)
  have gQ := (show W.drew.frozen? ⟨w.heap.size + 1, 0, none⟩ = _ from hfQ)
  have gR := (show W.drew.frozen? ⟨w.heap.size + 1 + 1, 0, none⟩ = _ from hfR)
  first | go_region_with (go_at_call 157; refine (Htr.out _ (bdr_)).mono ?_; rintro e w5 ⟨rfl, rfl⟩) | fail
  all_goals
   gi_wp2
   have cQ := Boxed.store_ (b := w.heap.size + 1 + 1) (j := 0) (u := .int .u64 (r : Int)) (hbQ.set (.slice (some ⟨w.heap.size + 1 + 1 + 1, 0, none⟩) (limbs (val qs)).length (limbs (val qs)).length)) (by omega)
   have cR := (Boxed.store_ (b := w.heap.size + 1) (j := 0) (u := .slice (some ⟨w.heap.size + 1 + 1 + 1, 0, none⟩) (limbs (val qs)).length (limbs (val qs)).length) hbx (by omega)).set (.int .u64 (r : Int))
   have hK1 := ((KeepsOthers.setCell W ⟨w.heap.size + 1, 0, none⟩ (.slice (some ⟨w.heap.size + 1 + 1 + 1, 0, none⟩) (limbs (val qs)).length (limbs (val qs)).length)).trans (KeepsOthers.setCell _ ⟨w.heap.size + 1 + 1, 0, none⟩ (.int .u64 (r : Int)))).same D _ HK.out rfl
   have hr1 := (((Just.refl (w.heap.size + 1) W).setCell 0 (.slice (some ⟨w.heap.size + 1 + 1 + 1, 0, none⟩) (limbs (val qs)).length (limbs (val qs)).length)).words (show ¬ (only (w.heap.size + 1 + 1 + 1)).blk (w.heap.size + 1) from fun h => by have h1 : w.heap.size + 1 = w.heap.size + 1 + 1 + 1 := h; omega) Hrow.out)
   have hr2 := (((Just.refl (w.heap.size + 1 + 1) _).setCell 0 (.int .u64 (r : Int))).words (show ¬ (only (w.heap.size + 1 + 1 + 1)).blk (w.heap.size + 1 + 1) from fun h => by have h1 : w.heap.size + 1 + 1 = w.heap.size + 1 + 1 + 1 := h; omega) hr1)
   have hB2 := (HB.out.setCell (p := ⟨w.heap.size + 1, 0, none⟩) (show w.heap.size ≤ w.heap.size + 1 by omega) (.slice (some ⟨w.heap.size + 1 + 1 + 1, 0, none⟩) (limbs (val qs)).length (limbs (val qs)).length)).setCell (p := ⟨w.heap.size + 1 + 1, 0, none⟩) (show w.heap.size ≤ w.heap.size + 1 + 1 by omega) (.int .u64 (r : Int))
   have hDsz : D < ((W.setCell ⟨w.heap.size + 1, 0, none⟩ (.slice (some ⟨w.heap.size + 1 + 1 + 1, 0, none⟩) (limbs (val qs)).length (limbs (val qs)).length)).setCell ⟨w.heap.size + 1 + 1, 0, none⟩ (.int .u64 (r : Int))).heap.size := (Array.getElem?_eq_some_iff.1 hK1).1
   refine ⟨by simp, .inl ⟨_, _, rfl, run_takeDeferred hK1, ?_⟩⟩
   have hB2d := hB2.drew
   have hr2d := hr2.drew
   have hK1d := (show (((W.setCell ⟨w.heap.size + 1, 0, none⟩ (.slice (some ⟨w.heap.size + 1 + 1 + 1, 0, none⟩) (limbs (val qs)).length (limbs (val qs)).length)).setCell ⟨w.heap.size + 1 + 1, 0, none⟩ (.int .u64 (r : Int))).drew).heap[D]? = _ from hK1)
   have c5d := (show (((W.setCell ⟨w.heap.size + 1, 0, none⟩ (.slice (some ⟨w.heap.size + 1 + 1 + 1, 0, none⟩) (limbs (val qs)).length (limbs (val qs)).length)).setCell ⟨w.heap.size + 1 + 1, 0, none⟩ (.int .u64 (r : Int))).drew).cell? ⟨w.heap.size + 1, 0, none⟩ = _ from cQ.cell)
   have c6d := (show (((W.setCell ⟨w.heap.size + 1, 0, none⟩ (.slice (some ⟨w.heap.size + 1 + 1 + 1, 0, none⟩) (limbs (val qs)).length (limbs (val qs)).length)).setCell ⟨w.heap.size + 1 + 1, 0, none⟩ (.int .u64 (r : Int))).drew).cell? ⟨w.heap.size + 1 + 1, 0, none⟩ = _ from cR.cell)
   clear hK1 hB2 hr2 hr1 cQ cR
   generalize ((W.setCell ⟨w.heap.size + 1, 0, none⟩ (.slice (some ⟨w.heap.size + 1 + 1 + 1, 0, none⟩) (limbs (val qs)).length (limbs (val qs)).length)).setCell ⟨w.heap.size + 1 + 1, 0, none⟩ (.int .u64 (r : Int))).drew = WF at *
   have hg := grownBy_putObj' WF D (.deferred none)
   have c5 := cell_kept c5d hg (fun r e => by cases e; exact ⟨_, hK1d, rfl⟩)
   have c6 := cell_kept c6d hg (fun r e => by cases e; exact ⟨_, hK1d, rfl⟩)
   have hBf := hB2d.trans (belowK_b (w := w) (Nat.le_refl _) _ D _ (.deferred none) (by omega) hK1d rfl rfl)
   have hr3 := hr2d.grown hg (B := W0.heap.size) (fun r e => by cases e; exact hD) (fun b hb => by have h1 : b = w.heap.size + 1 + 1 + 1 := hb; omega)
   refine ⟨.tuple #[.slice (some ⟨w.heap.size + 1 + 1 + 1, 0, none⟩) (limbs (val qs)).length (limbs (val qs)).length, .int .u64 (r : Int), .int .i64 0], ?_, .slice (some ⟨w.heap.size + 1 + 1 + 1, 0, none⟩) (limbs (val qs)).length (limbs (val qs)).length, ?_, ?_, hBf⟩
   · simp [results, Tryz.f150, go_sem, c5, c6]
   · rw [← Hvr.out]
   · have hq := (isN_trimU Hvq.out hr3)
     exact hq.mono ⟨fun b hb => by have h1 : b = w.heap.size + 1 + 1 + 1 := hb; show w.heap.size ≤ b; omega, fun h => h⟩
 case stop =>
  rintro D c pre W hD ⟨k, hk', hpre⟩ ⟨hf, _⟩ hK
  exact hf.elim
end
open Go.RowKit
theorem ddiv_one {y : Nat} (ha : IsN w Z a m) (hb : IsN w Y b y) (hy0 : 0 < y) (hy : y < 18446744073709551616) (hl : (limbs m).length ≤ 20000000000) :
  Calls Tryz.prog 142 #[a, b] w fun e w' => ∃ q r, e = .returned (.tuple #[q, r, .int .i64 0]) ∧ IsN w' (new w.heap.size) q (m / y) ∧ IsN w' (new w.heap.size) r (m % y) ∧ Below w.heap.size w w' := by
 have hck := dchecked_any ha hb
 rw [errD_good hy0] at hck
 have hword := dword_good ha hy0 hy hl
 have hlb : limbs y = [y] := limbs_one hy0 hy
 have hof : ∀ w1, Calls Tryz.prog 23 #[.int .u64 ((m % y : Nat) : Int)] w1 (fun e w' => ∃ v, e = .returned v ∧ IsN w' (new w1.heap.size) v (m % y) ∧ Below w1.heap.size w1 w') := fun w1 => of_any (Nat.lt_trans (Nat.mod_lt _ hy0) hy)
 obtain ⟨A, ca, rfl, hua⟩ := ha
 obtain ⟨B, cb, rfl, hub⟩ := hb
 rw [hlb] at hub hck ⊢
 obtain ⟨bb, ob, rfl, _, hbb, _, hcb⟩ := hub.open (by simp)
 have hcy := hcb 0 (by simp)
 simp only [List.getElem_cons_zero, Nat.add_zero] at hcy
 generalize (limbs m).length = la at *
 generalize m % y = r at *
 obtain ⟨Hck, Hword, Hof⟩ := hid3 hck hword hof
 clear hck hword hof hlb hua hub hcb
 show Calls Tryz.prog 142 #[.slice A la ca, .slice (some ⟨bb, ob, none⟩) 1 cb] w _
 go_enter Tryz.func142, Tryz.ntmps142
 go_wp2_with fail
 refine Hck.out.mono ?_
 rintro e w1 ⟨rfl, rfl⟩
 go_wp2_with fail
 refine Hword.out.mono ?_
 rintro e w1 ⟨q, rfl, hq, hb1⟩
 go_wp2_with fail
 refine (Hof.out _).mono ?_
 rintro e w2 ⟨v, rfl, hv, hb2⟩
 have hq2 := hq.below hb2
 have hv2 := hv.mono (new_le hb1.size)
 have hB := from_ hb1 hb2
 go_wp2
 go_ret3
 exact ⟨_, _, rfl, hq2, hv2, hB⟩
theorem ddiv_less {n : Nat} (ha : IsN w Z a m) (hb : IsN w Y b n) (h2 : 2 ≤ (limbs n).length) (hlt : (limbs m).length < (limbs n).length) (hl : (limbs m).length ≤ 20000000000) :
  Calls Tryz.prog 142 #[a, b] w fun e w' => ∃ q r, e = .returned (.tuple #[q, r, .int .i64 0]) ∧ IsN w' (new w.heap.size) q (m / n) ∧ IsN w' (new w.heap.size) r (m % n) ∧ Below w.heap.size w w' := by
 have hmn := limbs_len_lt hlt
 have hck := dchecked_any ha hb
 rw [errD_good (by omega)] at hck
 rw [Nat.div_eq_of_lt hmn, Nat.mod_eq_of_lt hmn]
 obtain ⟨A, ca, rfl, hua⟩ := ha
 obtain ⟨B, cb, rfl, hub⟩ := hb
 have hcl := clone_any (n := (limbs m).length) rfl hua (by omega)
 have hS : Calls Tryz.prog 21 #[.slice A (limbs m).length ca] w (fun e w' => ∃ v, e = .returned v ∧ IsN w' (new w.heap.size) v m ∧ Below w.heap.size w w') := by
  refine hcl.mono ?_
  rintro e w2 ⟨v, rfl, hown, hb2⟩
  obtain ⟨Av, cv, rfl⟩ := own_shape hown
  exact ⟨_, rfl, ⟨Av, cv, rfl, isU_after hua.small rfl hown (Nat.le_refl _)⟩, hb2⟩
 obtain ⟨HS, Hck⟩ := hid2 hS hck
 clear hS hcl hck hua hub
 generalize (limbs m).length = la at *
 generalize (limbs n).length = lb at *
 have hnl1 : ((lb : Int) == 1) = false := beq_eq_false_iff_ne.2 (by omega)
 have hdl : decide (la < lb) = true := decide_eq_true hlt
 go_enter Tryz.func142, Tryz.ntmps142
 go_wp2_with fail
 refine Hck.out.mono ?_
 rintro e w1 ⟨rfl, rfl⟩
 go_wp2_with fail
 refine HS.out.mono ?_
 rintro e w1 ⟨v, rfl, hv, hb1⟩
 go_wp2
 go_ret3
 exact ⟨_, _, rfl, IsN.zero _ _, hv, hb1⟩
theorem ddiv_good {n : Nat} (ha : IsN w Z a m) (hb : IsN w Y b n) (hn : 0 < n) (hl : (limbs m).length ≤ 20000000000) :
  Calls Tryz.prog 142 #[a, b] w fun e w' => ∃ q r, e = .returned (.tuple #[q, r, .int .i64 0]) ∧ IsN w' (new w.heap.size) q (m / n) ∧ IsN w' (new w.heap.size) r (m % n) ∧ Below w.heap.size w w' := by
 have h0 : 0 < (limbs n).length := len_pos.2 (by omega)
 by_cases h1 : (limbs n).length = 1
 · have hW : n < 18446744073709551616 := by
    have := lt_pow_len n
    rw [h1] at this
    simpa using this
   exact ddiv_one ha hb hn hW hl
 · rcases Nat.lt_or_ge (limbs m).length (limbs n).length with h | h
   · exact ddiv_less ha hb (by omega) h hl
   · exact ddiv_long ha hb (by omega) h hl
def tq (x y : Int) : Int := if decide (x < 0) = decide (y < 0) then ((x.natAbs / y.natAbs : Nat) : Int) else -((x.natAbs / y.natAbs : Nat) : Int)
theorem tq_enc (x y : Int) : ((decide (x < 0) != decide (y < 0)) && decide (0 < (limbs (x.natAbs / y.natAbs)).length)) = decide (tq x y < 0) ∧ limbs (tq x y).natAbs = limbs (x.natAbs / y.natAbs) := by
 unfold tq
 generalize x.natAbs / y.natAbs = q
 by_cases h : decide (x < 0) = decide (y < 0)
 · rw [if_pos h, h]
   refine ⟨?_, by rw [Int.natAbs_natCast]⟩
   rw [decide_eq_false (show ¬ ((q : Int) < 0) by omega)]
   simp
 · rw [if_neg h]
   refine ⟨?_, by rw [Int.natAbs_neg, Int.natAbs_natCast]⟩
   have hb : (decide (x < 0) != decide (y < 0)) = true := by simpa using h
   rw [hb, Bool.true_and]
   exact decide_eq_decide.2 (by rw [len_pos]; omega)
theorem res_int4 {fn : Func} {p u v x : Tmp} (h : fn.results = #[.cell p 25, .tmp u, .tmp v, .tmp x]) (tmps : Array Value) (g : Nat) {v0 v1 : Value} (hp : tmps.getD p undef = .pointer (some ⟨g, 0, none⟩)) (h0 : w.cell? ⟨g, 0, none⟩ = some v0) (h1 : w.cell? ⟨g, 1, none⟩ = some v1) :
  (results fn tmps).run Tryz.prog w = .ok (.tuple #[.agg #[v0, v1], tmps.getD u undef, tmps.getD v undef, tmps.getD x undef]) w := by
 have hp' : tmps[p]?.getD undef = .pointer (some ⟨g, 0, none⟩) := by simpa using hp
 simp [results, h, hp', asAddr, loadVar_int h0 h1]
theorem wquot_good {x y : Int} (ha : IsZ w Z a x) (hb : IsZ w Y b y) (hy : y ≠ 0) (hl : (limbs x.natAbs).length ≤ 10000000000) :
  Calls Tryz.prog 133 #[a, b] w fun e w' => ∃ q, e = .returned (.tuple #[q, .bool (decide (0 < (limbs (x.natAbs % y.natAbs)).length)), .bool (decide (x < 0) != decide (y < 0)), .int .i64 0]) ∧ IsZ w' (new w.heap.size) q (tq x y) ∧ Below w.heap.size w w' := by
 obtain ⟨ht1, ht2⟩ := tq_enc x y
 have hn0 : 0 < y.natAbs := by omega
 have hokx := IsZ.ok x
 have hoky := IsZ.ok y
 obtain ⟨_, rfl, A, ca, rfl, hu⟩ := ha
 obtain ⟨_, rfl, B, cb, rfl, hv⟩ := hb
 obtain ⟨m, hm⟩ : ∃ m, m = x.natAbs := ⟨_, rfl⟩
 obtain ⟨n, hn⟩ : ∃ n, n = y.natAbs := ⟨_, rfl⟩
 unfold IsZ
 rw [ht2]
 rw [← hm] at hu hl ht1 hokx ⊢
 rw [← hn] at hv hn0 ht1 hoky ⊢
 obtain ⟨s, hs⟩ : ∃ s, s = decide (x < 0) := ⟨_, rfl⟩
 obtain ⟨t, ht⟩ : ∃ t, t = decide (y < 0) := ⟨_, rfl⟩
 obtain ⟨sg, hsg⟩ : ∃ sg, sg = decide (tq x y < 0) := ⟨_, rfl⟩
 rw [← hs] at ht1 hokx ⊢
 rw [← ht] at ht1 hoky ⊢
 rw [← hsg] at ht1 ⊢
 have ua : IsN w Z (.slice A (limbs m).length ca) m := ⟨A, ca, rfl, hu⟩
 have ub : IsN w Y (.slice B (limbs n).length cb) n := ⟨B, cb, rfl, hv⟩
 obtain ⟨bA, bB, bR, hB0⟩ := boxes3 w (.bool s) (.slice A (limbs m).length ca) (.bool t) (.slice B (limbs n).length cb) (.bool false) (.slice none 0 0) 25
 have hg := given_twoI (s := s) (t := t) (ty := 25) (IsU.below ua hB0) (IsU.below ub hB0)
 have hg2 : (((w.alloc (.cells #[.bool s, .slice A (limbs m).length ca] 25)).alloc (.cells #[.bool t, .slice B (limbs n).length cb] 25)).alloc (.cells #[.bool false, .slice none 0 0] 25)).heap.size = w.heap.size + 3 := by simp
 rw [hg2] at hg
 have hck := wchecked_any (n := 2) (c := 2) hg rfl (by simp)
 have e0 : errCs [(s, limbs m), (t, limbs n)] = 0 := by simp [errCs, hokx, hoky]
 rw [e0] at hck
 have hb1 := hB0.alloc hB0.size (.cells #[.bool s, .slice A (limbs m).length ca, .bool t, .slice B (limbs n).length cb] 25)
 have hdv := fun (w1 : World) (h : Below w.heap.size w w1) => ddiv_good (ua.below h) (ub.below h) hn0 (by omega)
 obtain ⟨Hck, Hdv, Ht1⟩ := hid3 hck hdv ht1
 clear hg hg2 hu hv hck hdv e0 hs ht hsg ht1 ht2 hm hn ua ub hokx hoky
 obtain ⟨a0, a1, _, _, _⟩ := bA
 obtain ⟨b0, b1, _, _, _⟩ := bB
 generalize (limbs m).length = lm at *
 generalize (limbs n).length = ln at *
 have a0 := keepC (Below.refl_alloc hB0 (.cells #[.bool s, .slice A lm ca, .bool t, .slice B ln cb] 25)) a0
 have a1 := keepC (Below.refl_alloc hB0 (.cells #[.bool s, .slice A lm ca, .bool t, .slice B ln cb] 25)) a1
 have b0 := keepC (Below.refl_alloc hB0 (.cells #[.bool s, .slice A lm ca, .bool t, .slice B ln cb] 25)) b0
 have b1 := keepC (Below.refl_alloc hB0 (.cells #[.bool s, .slice A lm ca, .bool t, .slice B ln cb] 25)) b1
 cases s <;> cases t
 all_goals
  go_enter Tryz.func133, Tryz.ntmps133
  go_wp2_with fail
  refine Hck.out.mono ?_
  rintro e w1 ⟨rfl, hc1⟩
  have bR1 := (bR.alloc (.cells #[.bool _, .slice A lm ca, .bool _, .slice B ln cb] 25)).below hc1
  have a0 := keepC hc1 a0
  have a1 := keepC hc1 a1
  have b0 := keepC hc1 b0
  have b1 := keepC hc1 b1
  have hB1 := from_ hb1 hc1
  have hz2 : w.heap.size + 2 < w1.heap.size := bR1.lt
  clear bR hB0 hb1 Hck hc1
  go_wp2_with fail
  refine (Hdv.out _ hB1).mono ?_
  rintro e w2 ⟨_, _, rfl, ⟨Aq, cq, rfl, hq⟩, ⟨Ar, cr, rfl, hr⟩, hc2⟩
  have iq : IsU w2 _ (.slice Aq (limbs (m / n)).length cq) (limbs (m / n)) := ⟨Aq, cq, rfl, hq⟩
  have a0 := keepC hc2 a0
  have b0 := keepC hc2 b0
  have bR2 := bR1.below hc2
  have hB2 := from_ hB1 hc2
  have hz3 : w.heap.size + 2 < w1.heap.size := hz2
  clear hr hq bR1 hB1
  go_wp2_with fail
  refine (made_at iq Ht1.out).mono ?_
  rintro e w3 ⟨rfl, hc3⟩
  have bR3 := bR2.below hc3
  have hP := bR3.put (from_ hB2 hc3) (by omega) (.bool sg) (.slice Aq (limbs (m / n)).length cq)
  have hu2 := hP.keep (by omega) (iq.below hc3)
  obtain ⟨Hu, HP⟩ := hid2 hu2 hP
  obtain ⟨q0, q1, f0, f1, _⟩ := bR3
  clear hP hu2 iq bR2 hB2
  have hr0 : decide ((0 : Int) < ((limbs (m % n)).length : Int)) = decide (0 < (limbs (m % n)).length) := decide_eq_decide.2 (by omega)
  have Hr0 := hid hr0
  clear hr0
  go_wp2
  refine bodyPost_ret (res_int4 rfl _ (w.heap.size + 2) rfl HP.out.c0 HP.out.c1) rfl ?_
  refine ⟨_, ?_, ⟨_, rfl, Hu.out⟩, HP.out.bel⟩
  first | rfl | (simp; done)
end Go.Proofs.YtcheajjjdbllfaaGreat
