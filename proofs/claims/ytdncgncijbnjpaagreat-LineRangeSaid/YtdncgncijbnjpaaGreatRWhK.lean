/- div.Word at any words. No conditions but bounds on lengths. -/
import Derived.RangeFuncNested
import Derived.RangeFuncBound
import Derived.RangeFuncCalls
import Derived.RangeFuncLeaves
import Derived.RangeFuncBox
import Derived.Shelf.Abstract
import Derived.Shelf.RegionOpen
import Derived.OwnWalkIn
import Derived.TacticsInMore
import Derived.LoopNIn
import Derived.LoopIn
import Derived.BigRegionIn
import Derived.OrdersHeld
import Derived.Stop.RegionWithIn
import Derived.Test.YtdncgncijbnjpaaGreatRCmpB
import Derived.Test.YtdncgncijbnjpaaGreatRDivL
import Derived.Test.YtdncgncijbnjpaaGreatRFenceR
import Derived.Test.YtdncgncijbnjpaaGreatRWhC
import Derived.Test.YtdncgncijbnjpaaGreatRWhF
set_option linter.unusedVariables false
set_option linter.unusedSimpArgs false
set_option maxRecDepth 100000
set_option maxHeartbeats 40000000
namespace Go.Proofs.YtdncgncijbnjpaaGreat
open Go.Lib (hid)
open Go.RowKit Go.Shelf
variable {Y Z : Zone} {a b : Value} {m : Nat}
theorem wpListIn_make_full {F : Fence} {n : Nat} {P : Program} (w : World) {ops : Array Oper} {rest : List Oper} {o : Oper} {a : Act} {Q : Exit → Act → World → Prop}
  (hg : o.guard = none) (l c : Operand) (t : TypeId) (hop : o.op = Op.makeSlice t l c)
  (base : Nat) (e : TypeId) (i : TypeInfo) (z : Value) (size : Nat) (h1 : P.underlying t = some (.slice e)) (h2 : P.info? e = some i) (h3 : i.zero = some z) (h4 : i.size = size)
  (kl kc : IntKind) (L C : Int) (m : Nat) (hl : a.eval l = .int kl L) (hc : a.eval c = .int kc C) (hL : L = (m : Int)) (hC : C = (m : Int)) (b2 : i.bytes * m ≤ 281474976710656) (b3 : m ≤ maxLen) (b4 : base ≤ w.heap.size)
  (hK : ∀ w', w'.ownsRow base e size (.slice (some ⟨w.heap.size, 0, none⟩) m m) m (madeCells z.cells (m * size)).toList → w.grownBy w' none → wpListIn F n P ops Q rest (a.put o.dst (.slice (some ⟨w.heap.size, 0, none⟩) m m)) w') :
  wpListIn F n P ops Q (o :: rest) a w := by
 refine wpListIn_plain hg fun K hK' => ?_
 obtain ⟨w', A, B, D⟩ := run_make_full (P := P) w base t e i z size h1 h2 h3 h4 kl kc m b2 b3 b4
 subst hL
 subst hC
 unfold Oper.wpIn
 refine ⟨?_, ?_⟩
 · simp [Oper.about, hop]
 · rw [Oper.semAt_plain F _ _ (by rw [hop]; intro c hc'; cases hc')]
   simp [execOp, hop, hl, hc, A, Result.andThen]
   exact hK' _ _ (hK w' B D)
theorem U64s.grown {W W' : World} {row : Option Nat} {A : Option Addr} {c B : Nat} {l : List Nat} (h : U64s W Z A c l) (hg : W.grownBy W' row) (hr : ∀ r, row = some r → B ≤ r) (hZ : ∀ b, Z.blk b → b < B) : U64s W' Z A c l :=
 h.keep fun b hb hl => hg.block b hl (fun e => by have := hr b e.symm; have := hZ b hb; omega)
theorem three_boxes {w w4 : World} {x y z : Value} {t1 t2 t3 : TypeId} (hg : (((w.alloc (.cells #[x] t1)).alloc (.cells #[y] t2)).alloc (.cells #[z] t3)).grownBy w4 none) :
  Boxed w4 w.heap.size t1 x ∧ Boxed w4 (w.heap.size + 1) t2 y ∧ Boxed w4 (w.heap.size + 1 + 1) t3 z ∧ Below w.heap.size w w4 ∧ w.heap.size + 3 ≤ w4.heap.size := by
 have C := (((Boxed.new w t1 x).alloc (.cells #[y] t2)).alloc (.cells #[z] t3)).kept hg (by simp)
 have A := ((Boxed.new (w.alloc (.cells #[x] t1)) t2 y).alloc (.cells #[z] t3)).kept hg (by simp)
 have B := (Boxed.new ((w.alloc (.cells #[x] t1)).alloc (.cells #[y] t2)) t3 z).kept hg (by simp)
 simp only [World.size_alloc] at A B
 refine ⟨C, A, B, ((((Below.refl _ w).alloc (Nat.le_refl _) _).alloc (by simp) _).alloc (by simp; omega) _).grown hg (by simp; omega) (fun k h => by cases h), ?_⟩
 have := hg.size
 simpa using this
section
attribute [local go_sem] Oper.semAt_some
theorem dword_good {w : World} {Z : Zone} {a : Value} {m y : Nat} (ha : IsN w Z a m) (hy0 : 0 < y) (hy : y < 18446744073709551616) (hl : (limbs m).length ≤ 20000000000) :
  Calls Tryz.prog 284 #[a, .int .u64 (y : Int)] w fun e w' => ∃ q, e = .returned (.tuple #[q, .int .u64 ((m % y : Nat) : Int), .int .i64 0]) ∧ IsN w' (new w.heap.size) q (m / y) ∧ Below w.heap.size w w' := by
 have KC := fun (w1 : World) (h : Below w.heap.size w w1) => check_goodN (ha.below h)
 have Ka := small_limbs m
 have KD := val_limbs m
 obtain ⟨A, H, rfl, hu⟩ := ha
 obtain ⟨i0, hi, KU, KV, KW⟩ := info_parts Tryz.info143
 generalize limbs m = l at *
 have KY : ((y : Int) == 0) = false := beq_eq_false_iff_ne.2 (by omega)
 obtain ⟨Kv, Qe⟩ := hid2 KC KD
 clear KC KD
 have Qn : ∀ f, Fence.wide.fn f := fun _ => trivial
 refine (callsIn_wide (n := 3)).1 ?_
 refine callsIn_of_wp_marks Tryz.func284 rfl trivial ?_ rfl
 simp only [Tryz.ntmps284, List.size_toArray, List.length_cons, List.length_nil, Nat.reduceAdd, Nat.reduceSub, Array.replicate_succ, Array.replicate_zero, List.push_toArray, List.append_toArray, List.nil_append, List.cons_append]
 have KE : ∀ o1 o2 o3, Below w.heap.size w (((w.alloc o1).alloc o2).alloc o3) := fun o1 o2 o3 => (((Below.refl _ w).alloc (Nat.le_refl _) _).alloc (by simp) _).alloc (by simp; omega) _
 have Ki := hid KE
 clear KE
 gi_wp2_with (first
  | (gi_at_call 223; refine (callsIn_wide.2 (Kv.out _ (Ki.out _ _ _))).mono ?_; rintro e w' ⟨rfl, rfl⟩)
  | (gi_at_make; go_loud (refine wpListIn_make_full _ rfl _ _ 33 rfl w.heap.size 143 i0 (.int .u64 0) 1 Tryz.underlying33 hi KU KV .i64 .i64 _ _ l.length rfl rfl rfl rfl (by rw [KW]; omega) (by simp only [maxLen]; omega) (by simp; omega) ?_); intro w4 hown hgrow; obtain ⟨x1, x2, x3, Kw, Qf⟩ := three_boxes hgrow; have y1 := x1.cell; have y2 := x2.cell; have y3 := x3.cell; have f1 := x1.frozen; have f2 := x2.frozen; have f3 := x3.frozen)
  | (gi_at_call 292; refine (callsIn_wide.2 (back_any _ _ _ _)).mono ?_; rintro e w' ⟨rfl, rfl⟩))
 have KF : (madeCells (Value.int .u64 0).cells (l.length * 1)).toList = (List.replicate l.length 0).map fun x : Nat => Value.int .u64 (x : Int) := by
  rw [Nat.mul_one, List.map_replicate]
  simpa [Value.cells] using toList_madeCells_one (.int .u64 0) l.length
 rw [KF] at hown
 simp only [World.size_alloc] at hown
 have L := (isU_after (B := w.heap.size) (Small.replicate0 _) (by simp) hown (Nat.le_refl _)).only_ trivial
 have KZ : w.heap.size + 1 + 1 + 1 < w4.heap.size := (hown.lt _ rfl).2
 obtain ⟨v, hv⟩ : ∃ v, v = Value.slice (some ⟨w.heap.size + 1 + 1 + 1, 0, none⟩) l.length l.length := ⟨_, rfl⟩
 have hJ : Just (w.heap.size + 1) w4 (w4.setCell ⟨w.heap.size + 1, 0, none⟩ v) := (Just.refl _ _).setCell 0 v
 have KG : ∀ (W : World) o, Below W.heap.size W (W.alloc o) := fun W o => (Below.refl _ W).alloc (Nat.le_refl _) _
 have Kj := (hJ.words (show ¬ (only (w.heap.size + 1 + 1 + 1)).blk (w.heap.size + 1) from fun h => by have G : w.heap.size + 1 = w.heap.size + 1 + 1 + 1 := h; omega) L).below (KG _ (.cells #[.slice A l.length H] 33))
 have Kb : Below w.heap.size w ((w4.setCell ⟨w.heap.size + 1, 0, none⟩ v).alloc (.cells #[.slice A l.length H] 33)) := (Kw.trans (hJ.below (by omega) Kw.size)).alloc (by rw [show (w4.setCell ⟨w.heap.size + 1, 0, none⟩ v).heap.size = w4.heap.size by simp [World.setCell]]; omega) _
 have bW := (x1.other (B' := w.heap.size + 1) (by omega) v).alloc (.cells #[.slice A l.length H] 33)
 have V := (x2.set v).alloc (.cells #[.slice A l.length H] 33)
 have bR := (x3.other (B' := w.heap.size + 1) (by omega) v).alloc (.cells #[.slice A l.length H] 33)
 have d := Boxed.new (w4.setCell ⟨w.heap.size + 1, 0, none⟩ v) 33 (.slice A l.length H)
 rw [show (w4.setCell ⟨w.heap.size + 1, 0, none⟩ v).heap.size = w4.heap.size by simp [World.setCell]] at d
 have Kk : ((w4.setCell ⟨w.heap.size + 1, 0, none⟩ v).alloc (.cells #[.slice A l.length H] 33)).heap.size = w4.heap.size + 1 := by simp [World.setCell]
 rw [← hv]
 clear KF hown hgrow L hJ y1 y2 y3 f1 f2 f3 x1 x2 x3 KG Kw
 generalize (w4.setCell ⟨w.heap.size + 1, 0, none⟩ v).alloc (.cells #[.slice A l.length H] 33) = W0 at *
 obtain ⟨M, KX⟩ : ∃ M, M = w4.heap.size := ⟨_, rfl⟩
 rw [← KX] at Kk KZ Qf d ⊢
 clear KX
 obtain ⟨S, hS⟩ : ∃ S : Nat → Prop, S = fun k => k < M + 1 ∧ k ≠ w.heap.size + 1 + 1 ∧ k ≠ w.heap.size + 1 + 1 + 1 := ⟨_, rfl⟩
 have I : ∀ k, S k ↔ (k < M + 1 ∧ k ≠ w.heap.size + 1 + 1 ∧ k ≠ w.heap.size + 1 + 1 + 1) := fun k => by rw [hS]
 clear hS
 have Kl : ∀ b, b < w.heap.size → S b := fun b hb => (I _).2 ⟨by omega, by omega, by omega⟩
 obtain ⟨Qw, Hv⟩ := hid2 Kk hv
 have Qo : W0.heap.size ≤ M + 1 := by omega
 have Qp : M + 1 ≤ W0.heap.size := by omega
 clear Kk hv
 have Km : ∀ (W : World) (l : Nat) (o o' : Obj), W0.heap.size ≤ l → W.heap[l]? = some o → o.isCells = false → o.isWalk = false → KeptAt S W (W.putObj l o') := fun W l o o' hl _ _ _ k E =>
  World.putObj_heap_other (fun e => by have := (I k).1 E; omega)
 have ua : U64s W0 ⟨S, False⟩ A H l := (hu.zone (Y := ⟨S, False⟩) (fun b _ hb => Kl b hb) (fun h => h.elim)).below Kb
 have K0 := hu.len
 refine wpIn_rangeFunc_ownG rfl (by omega) (gf := 295) (lb := #[.pointer (some ⟨M, 0, none⟩)]) rfl trivial (enters_of Tryz.func295 (by kernel_rfl) rfl)
  (back_stops Fence.wide (3 - 1) trivial rfl (by omega) M S ((I _).2 ⟨by omega, by omega, by omega⟩) A H l W0 (fun k E => by have := (I k).1 E; omega) d.cell ua)
  (fun h k => KeptAt.trans h k) Km (Below.refl _ _) (fun _ => rfl)
  (fun J W => (∃ (C : List Nat) (r : Nat), (Hid (r < y ∧ C.length = l.length ∧ Small C ∧ (J.map (·.1) = backs l.length J.length → WordI l y J.length C r))) ∧ Boxed W (w.heap.size + 1 + 1) 143 (.int .u64 (r : Int)) ∧ U64s W (only (w.heap.size + 1 + 1 + 1)) (some ⟨w.heap.size + 1 + 1 + 1, 0, none⟩) l.length C) ∧ ((KeptAt S W0 W ∧ W0.heap.size ≤ W.heap.size) ∧ Below w.heap.size w W))
  (fun c J W => False ∧ ((KeptAt S W0 W ∧ W0.heap.size ≤ W.heap.size) ∧ Below w.heap.size w W))
  (OwnFrom.and (fun s X Y row hs U hr => by
   obtain ⟨C, r, G, N, h3⟩ := hs
   exact ⟨C, r, G, N.kept U (fun e => by have := (hr _ e.symm).1; omega), h3.grown U (fun r h => (hr r h).1) (fun b hb => by have G : b = w.heap.size + 1 + 1 + 1 := hb; omega)⟩) (OwnFrom.and (keptAt_own (fun k E => by have := (I k).1 E; omega)) (ownFrom_below (Nat.le_refl _) (by omega))))
  (fun c => OwnFrom.and (ownFrom_pure _ _) (OwnFrom.and (keptAt_own (fun k E => by have := (I k).1 E; omega)) (ownFrom_below (Nat.le_refl _) (by omega))))
  ⟨⟨List.replicate l.length 0, 0, hid ⟨hy0, by simp, Small.replicate0 _, fun _ => WordI.start hy0⟩, bR, Kj⟩, ⟨KeptAt.refl _ _, Nat.le_refl _⟩, Kb⟩
  (fun x => { tmps := #[.slice A l.length H, .int .u64 (y : Int), undef, .pointer (some ⟨w.heap.size, 0, none⟩), .pointer (some ⟨w.heap.size + 1, 0, none⟩), .pointer (some ⟨w.heap.size + 1 + 1, 0, none⟩), .int .i64 0, .int .i64 (x.1 : Int), .int .u64 ((l[x.1]'x.2 : Nat) : Int), .bool false,
   .slice A l.length H, .int .i64 0, .bool false, .bool false, .int .u64 (y : Int), .bool false, .slice A l.length H, .int .i64 (l.length : Int), v, .slice A l.length H, .func (.func 295) #[] #[.pointer (some ⟨M, 0, none⟩)], .int .i64 (x.1 : Int), .int .u64 ((l[x.1]'x.2 : Nat) : Int), undef, undef, undef, undef, undef, undef, undef, undef, undef, undef, undef, undef, undef], defers := [] }) ?assign ?body ?done ?stop
 case assign =>
  intro l x W K F
  gi_wp2
  exact F
 case body =>
  rintro lp J ⟨i, hi⟩ W ⟨⟨C, r, O, P, L⟩, ⟨E, Qg⟩, z⟩ Qh
  obtain ⟨Kx, Kg, Kh, O⟩ := O.out
  have KH := (E.cell (p := ⟨w.heap.size, 0, none⟩) ((I _).2 ⟨by show w.heap.size < _; omega, by show w.heap.size ≠ _; omega, by show w.heap.size ≠ _; omega⟩)).trans bW.cell
  have R := (E.cell (p := ⟨w.heap.size + 1, 0, none⟩) ((I _).2 ⟨by show w.heap.size + 1 < _; omega, by show w.heap.size + 1 ≠ _; omega, by show w.heap.size + 1 ≠ _; omega⟩)).trans V.cell
  have Kc := P.cell
  have Kd := P.frozen
  have Kn : i < C.length := by omega
  have Ko := L.cellAt Kn
  have Kp := L.frozenAt trivial (by omega) i
  rw [Nat.zero_add] at Ko Kp
  have K1 := Ka.get hi
  have Kq : (r * 18446744073709551616 + l[i]) / y < 18446744073709551616 := by
   refine Nat.div_lt_of_lt_mul ?_
   have h3 : (r + 1) * 18446744073709551616 ≤ y * 18446744073709551616 := Nat.mul_le_mul_right _ Kx
   omega
  have KI : ((J ++ [(⟨i, hi⟩ : Place l)]).map (·.1) = backs l.length (J ++ [(⟨i, hi⟩ : Place l)]).length → WordI l y (J ++ [(⟨i, hi⟩ : Place l)]).length (C.set i ((r * 18446744073709551616 + l[i]) / y)) ((r * 18446744073709551616 + l[i]) % y)) := fun e => by
   rw [List.length_append, List.length_singleton, List.map_append, backs_succ] at e
   obtain ⟨e1, e2⟩ := List.append_inj' e rfl
   have e3 : i = l.length - 1 - J.length := by simpa using e2
   obtain ⟨_, h5⟩ := (O e1).step Ka hy Qh
   rw [List.length_append, List.length_singleton]
   subst e3
   exact h5
  have KJ := fun w => div64_any w Kx K1 hy
  have K2 : (r * 18446744073709551616 + l[i]) % y < y := Nat.mod_lt _ hy0
  have KK := L.store Kn Kq
  rw [Nat.zero_add] at KK
  have K3 : Hid ((r * 18446744073709551616 + l[i]) % y < y ∧ (C.set i ((r * 18446744073709551616 + l[i]) / y)).length = l.length ∧ Small (C.set i ((r * 18446744073709551616 + l[i]) / y)) ∧ ((J ++ [(⟨i, hi⟩ : Place l)]).map (·.1) = backs l.length (J ++ [(⟨i, hi⟩ : Place l)]).length → WordI l y (J ++ [(⟨i, hi⟩ : Place l)]).length (C.set i ((r * 18446744073709551616 + l[i]) / y)) ((r * 18446744073709551616 + l[i]) % y))) := ⟨K2, by simpa using Kg, small_set Kh _ _ Kq, KI⟩
  have K4 := hid KJ
  clear KI KJ O Kg
  generalize (r * 18446744073709551616 + l[i]) / y = q1 at *
  generalize (r * 18446744073709551616 + l[i]) % y = r1 at *
  generalize l[i] = x at *
  rw [Hv.out] at R
  have Qq : w.heap.size + 1 + 1 + 1 < W.heap.size := by omega
  have dR := (show W.drew.cell? ⟨w.heap.size + 1 + 1, 0, none⟩ = _ from Kc)
  have dQ := (show W.drew.cell? ⟨w.heap.size + 1, 0, none⟩ = _ from R)
  have dW := (show W.drew.cell? ⟨w.heap.size, 0, none⟩ = _ from KH)
  have dX := (show W.drew.cell? ⟨w.heap.size + 1 + 1 + 1, i, none⟩ = _ from Ko)
  have eR := (show W.drew.frozen? ⟨w.heap.size + 1 + 1, 0, none⟩ = _ from Kd)
  have eX := (show W.drew.frozen? ⟨w.heap.size + 1 + 1 + 1, i, none⟩ = _ from Kp)
  have Qr : i < l.length := hi
  obtain ⟨Qi, Ky, Qj, Hk, HB⟩ := hid5 I L P E z
  clear I Kl Km hu ua K0 Kb bW V bR d Kj Kv Ki KK E z KH R Kc Kd Ko Kp L P Ka KU KV KW KY Kh
  gi_wp2
  refine wpIn_region_heldR (fun w' => w'.cell? ⟨w.heap.size, 0, none⟩ = some (.int .u64 (y : Int)) ∧ w'.cell? ⟨w.heap.size + 1, 0, none⟩ = some (.slice (some ⟨w.heap.size + 1 + 1 + 1, 0, none⟩) l.length l.length)) (by kernel_rfl) (by kernel_rfl) ?hL ?_
  case hL =>
   rintro ⟨a, w', h⟩
   exact h
  have g := And.intro dW dQ
  show wpAnyH _ _ _ _ _ 12 _ _ _
  refine wpAnyH_take (i := 0) (v := ?v0) rfl (by kernel_rfl) (by kernel_rfl) (by kernel_rfl) (fun _ _ _ h => h) (Or.inl ⟨by rfl, ?y0⟩) g ?r0
  case y0 =>
   rintro w' ⟨G, N⟩
   go_simp
   try with_reducible rfl
  refine wpAnyH_take (i := 1) (v := ?v1) rfl (by kernel_rfl) (by kernel_rfl) (by kernel_rfl) (fun _ _ _ h => h) (Or.inl ⟨by rfl, ?y1⟩) g ?r1
  case y1 =>
   rintro w' ⟨G, N⟩
   go_simp
   try with_reducible rfl
  refine wpAnyH_take (i := 3) (v := ?v3) rfl (by kernel_rfl) (by kernel_rfl) (by kernel_rfl) (fun _ _ _ h => h) (Or.inl ⟨by rfl, ?y3⟩) g ?r3
  case y3 =>
   rintro w' ⟨G, N⟩
   go_simp
   try with_reducible rfl
  refine wpAnyH_take (i := 4) (v := ?v4) rfl (by kernel_rfl) (by kernel_rfl) (by kernel_rfl) (fun _ _ _ h => h) (Or.inl ⟨by rfl, ?y4⟩) g ?r4
  case y4 =>
   rintro w' ⟨G, N⟩
   go_simp
   try with_reducible rfl
  refine anyH_one (i := 2) (by kernel_rfl) (wpOp_step rfl (by rfl) fun K F => ?_)
  go_simp
  refine F _ _ ⟨g, ?_⟩
  clear F K
  refine anyH_one (i := 5) (by kernel_rfl) (wpOp_step rfl (by rfl) fun K F => ?_)
  go_simp
  refine (K4.out _).mono ?_
  rintro e w2 ⟨rfl, Q⟩
  have kQ := keepC Q dQ
  have kW := keepC Q dW
  have kR := keepC Q dR
  have kX := keepC Q dX
  have lR := keepF Q (by show _ < W.heap.size; omega) eR
  have lX := keepF Q (by show _ < W.heap.size; omega) eX
  refine F _ _ ⟨And.intro kW kQ, ?_⟩
  clear F K
  have Ke := And.intro kW kQ
  refine wpAnyH_take (i := 6) (v := ?v6) rfl (by kernel_rfl) (by kernel_rfl) (by kernel_rfl) (fun _ _ _ h => h) (Or.inl ⟨by rfl, ?y6⟩) Ke ?r6
  case y6 =>
   rintro w' ⟨G, N⟩
   go_simp
   try with_reducible rfl
  refine wpAnyH_take (i := 7) (v := ?v7) rfl (by kernel_rfl) (by kernel_rfl) (by kernel_rfl) (fun _ _ _ h => h) (Or.inl ⟨by rfl, ?y7⟩) Ke ?r7
  case y7 =>
   rintro w' ⟨G, N⟩
   go_simp
   try with_reducible rfl
  refine wpAnyH_take (i := 8) (v := ?v8) rfl (by kernel_rfl) (by kernel_rfl) (by kernel_rfl) (fun _ _ _ h => h) (Or.inl ⟨by rfl, ?y8⟩) Ke ?r8
  case y8 =>
   rintro w' ⟨G, N⟩
   go_simp
   try with_reducible rfl
  refine wpAnyH_take (i := 9) (v := ?v9) rfl (by kernel_rfl) (by kernel_rfl) (by kernel_rfl) (fun _ _ _ h => h) (Or.inl ⟨by rfl, ?y9⟩) Ke ?r9
  case y9 =>
   rintro w' ⟨G, N⟩
   go_simp
   try with_reducible rfl
  refine anyH_one (i := 10) (by kernel_rfl) (wpOp_step rfl (by rfl) fun K F => ?_)
  go_simp
  have KL := st1 (j := i) (x := .int .u64 (q1 : Int)) kW (show w.heap.size + 1 + 1 + 1 ≠ w.heap.size by omega)
  have KM := st1 (j := i) (x := .int .u64 (q1 : Int)) kQ (show w.heap.size + 1 + 1 + 1 ≠ w.heap.size + 1 by omega)
  have Qs := st1 (j := i) (x := .int .u64 (q1 : Int)) kR (show w.heap.size + 1 + 1 + 1 ≠ w.heap.size + 1 + 1 by omega)
  have Qt := fz1 (b := w.heap.size + 1 + 1 + 1) (j := i) (x := .int .u64 (q1 : Int)) lR
  refine F _ _ ⟨And.intro KL KM, ?_⟩
  clear F K
  refine anyH_one (i := 11) (by kernel_rfl) (wpOp_step rfl (by rfl) fun K F => ?_)
  go_simp
  refine F _ _ ⟨And.intro (st1 KL (by omega)) (st1 KM (by omega)), ?_⟩
  clear F K
  refine wpAnyH_done (by kernel_rfl) ?_ _
  have T : Below W.heap.size W w2 := (((Below.refl _ W).drew).trans Q)
  have K5 := ((Boxed.store_ (b := w.heap.size + 1 + 1 + 1) (j := i) (u := .int .u64 (q1 : Int)) (Boxed.below_ Qj.out T) (by omega)).set (.int .u64 (r1 : Int)))
  have KN := (((Ky.out.below T).store Kn Kq))
  rw [Nat.zero_add] at KN
  have K6 := ((Just.refl (w.heap.size + 1 + 1) (w2.setCell ⟨w.heap.size + 1 + 1 + 1, i, none⟩ (.int .u64 (q1 : Int)))).setCell 0 (.int .u64 (r1 : Int))).words (show ¬ (only (w.heap.size + 1 + 1 + 1)).blk (w.heap.size + 1 + 1) from fun h => by have G : w.heap.size + 1 + 1 = w.heap.size + 1 + 1 + 1 := h; omega) KN
  have KO : KeptAt S W ((w2.setCell ⟨w.heap.size + 1 + 1 + 1, i, none⟩ (.int .u64 (q1 : Int))).setCell ⟨w.heap.size + 1 + 1, 0, none⟩ (.int .u64 (r1 : Int))) := fun k E => by
   have h := (Qi.out k).1 E
   rw [Below.heap_setCell _ _ _ _ (show k ≠ w.heap.size + 1 + 1 by omega), Below.heap_setCell _ _ _ _ (show k ≠ w.heap.size + 1 + 1 + 1 by omega)]
   exact T.block k (by omega)
  refine ⟨(((keepsOthers_below T).trans (KeepsOthers.setCell _ _ _)).trans (KeepsOthers.setCell _ _ _)).from _, KO, ⟨_, _, K3, K5, K6⟩, ⟨Hk.out.trans KO, ?_⟩, ?_⟩
  · have := T.size
    simp only [World.setCell, Array.size_modify]
    omega
  · exact ((HB.out.trans (T.mono (by omega))).setCell (p := ⟨w.heap.size + 1 + 1 + 1, i, none⟩) (show w.heap.size ≤ w.heap.size + 1 + 1 + 1 by omega) _).setCell (p := ⟨w.heap.size + 1 + 1, 0, none⟩) (show w.heap.size ≤ w.heap.size + 1 + 1 by omega) _
 case done =>
  rintro D ys W hD Kz ⟨⟨C, r, O, P, L⟩, ⟨E, Qg⟩, z⟩ F
  obtain ⟨Kx, Kg, Kh, O⟩ := O.out
  have KP : ys.length = l.length := by
   have := congrArg List.length Kz
   simpa [backs, upto] using this
  have Kr := (O (by rw [KP]; exact Kz))
  rw [KP] at Kr
  obtain ⟨KA, KB⟩ := Kr.done Ka
  rw [Qe.out] at KA KB
  have R := (E.cell (p := ⟨w.heap.size + 1, 0, none⟩) ((I _).2 ⟨by show w.heap.size + 1 < _; omega, by show w.heap.size + 1 ≠ _; omega, by show w.heap.size + 1 ≠ _; omega⟩)).trans V.cell
  have KQ : Boxed W (w.heap.size + 1) 33 v := (E _ ((I _).2 ⟨by omega, by omega, by omega⟩)).trans V
  have K7 := KQ.frozen
  have Kc := P.cell
  have Kd := P.frozen
  rw [Hv.out] at R
  have Ks := fun (W' : World) (h : Below W.heap.size W W') => dtrim_any (L.below h)
  rw [Kg] at Ks
  obtain ⟨Qk, Ql, Qm, Ky, HK, HB⟩ := hid6 Ks KA KB L F z
  clear Ks KA KB L F Kr O I Kl Km hu ua Kb bW V bR d Kj Kv Ki E z Kz Kh
  gi_wp2
  refine wpIn_wide.2 ?_
  have eQ := (show W.drew.cell? ⟨w.heap.size + 1, 0, none⟩ = _ from R)
  have eR := (show W.drew.cell? ⟨w.heap.size + 1 + 1, 0, none⟩ = _ from Kc)
  have gQ := (show W.drew.frozen? ⟨w.heap.size + 1, 0, none⟩ = _ from K7)
  have gR := (show W.drew.frozen? ⟨w.heap.size + 1 + 1, 0, none⟩ = _ from Kd)
  first | go_region_with (go_at_call 291; refine (Qk.out _ (bdr_)).mono ?_; rintro e w5 ⟨rfl, rfl⟩) | fail
  all_goals
   gi_wp2
   have cQ := Boxed.store_ (b := w.heap.size + 1 + 1) (j := 0) (u := .int .u64 (r : Int)) (KQ.set (.slice (some ⟨w.heap.size + 1 + 1 + 1, 0, none⟩) (limbs (val C)).length (limbs (val C)).length)) (by omega)
   have cR := (Boxed.store_ (b := w.heap.size + 1) (j := 0) (u := .slice (some ⟨w.heap.size + 1 + 1 + 1, 0, none⟩) (limbs (val C)).length (limbs (val C)).length) P (by omega)).set (.int .u64 (r : Int))
   have Kf := ((KeepsOthers.setCell W ⟨w.heap.size + 1, 0, none⟩ (.slice (some ⟨w.heap.size + 1 + 1 + 1, 0, none⟩) (limbs (val C)).length (limbs (val C)).length)).trans (KeepsOthers.setCell _ ⟨w.heap.size + 1 + 1, 0, none⟩ (.int .u64 (r : Int)))).same D _ HK.out rfl
   have KR := (((Just.refl (w.heap.size + 1) W).setCell 0 (.slice (some ⟨w.heap.size + 1 + 1 + 1, 0, none⟩) (limbs (val C)).length (limbs (val C)).length)).words (show ¬ (only (w.heap.size + 1 + 1 + 1)).blk (w.heap.size + 1) from fun h => by have G : w.heap.size + 1 = w.heap.size + 1 + 1 + 1 := h; omega) Ky.out)
   have KS := (((Just.refl (w.heap.size + 1 + 1) _).setCell 0 (.int .u64 (r : Int))).words (show ¬ (only (w.heap.size + 1 + 1 + 1)).blk (w.heap.size + 1 + 1) from fun h => by have G : w.heap.size + 1 + 1 = w.heap.size + 1 + 1 + 1 := h; omega) KR)
   have KT := (HB.out.setCell (p := ⟨w.heap.size + 1, 0, none⟩) (show w.heap.size ≤ w.heap.size + 1 by omega) (.slice (some ⟨w.heap.size + 1 + 1 + 1, 0, none⟩) (limbs (val C)).length (limbs (val C)).length)).setCell (p := ⟨w.heap.size + 1 + 1, 0, none⟩) (show w.heap.size ≤ w.heap.size + 1 + 1 by omega) (.int .u64 (r : Int))
   have Qv : D < ((W.setCell ⟨w.heap.size + 1, 0, none⟩ (.slice (some ⟨w.heap.size + 1 + 1 + 1, 0, none⟩) (limbs (val C)).length (limbs (val C)).length)).setCell ⟨w.heap.size + 1 + 1, 0, none⟩ (.int .u64 (r : Int))).heap.size := (Array.getElem?_eq_some_iff.1 Kf).1
   refine ⟨by simp, .inl ⟨_, _, rfl, run_takeDeferred Kf, ?_⟩⟩
   have K8 := KT.drew
   have K9 := KS.drew
   have Kt := (show (((W.setCell ⟨w.heap.size + 1, 0, none⟩ (.slice (some ⟨w.heap.size + 1 + 1 + 1, 0, none⟩) (limbs (val C)).length (limbs (val C)).length)).setCell ⟨w.heap.size + 1 + 1, 0, none⟩ (.int .u64 (r : Int))).drew).heap[D]? = _ from Kf)
   have Qa := (show (((W.setCell ⟨w.heap.size + 1, 0, none⟩ (.slice (some ⟨w.heap.size + 1 + 1 + 1, 0, none⟩) (limbs (val C)).length (limbs (val C)).length)).setCell ⟨w.heap.size + 1 + 1, 0, none⟩ (.int .u64 (r : Int))).drew).cell? ⟨w.heap.size + 1, 0, none⟩ = _ from cQ.cell)
   have Qb := (show (((W.setCell ⟨w.heap.size + 1, 0, none⟩ (.slice (some ⟨w.heap.size + 1 + 1 + 1, 0, none⟩) (limbs (val C)).length (limbs (val C)).length)).setCell ⟨w.heap.size + 1 + 1, 0, none⟩ (.int .u64 (r : Int))).drew).cell? ⟨w.heap.size + 1 + 1, 0, none⟩ = _ from cR.cell)
   clear Kf KT KS KR cQ cR
   generalize ((W.setCell ⟨w.heap.size + 1, 0, none⟩ (.slice (some ⟨w.heap.size + 1 + 1 + 1, 0, none⟩) (limbs (val C)).length (limbs (val C)).length)).setCell ⟨w.heap.size + 1 + 1, 0, none⟩ (.int .u64 (r : Int))).drew = WF at *
   have U := grownBy_putObj' WF D (.deferred none)
   have c5 := cell_kept Qa U (fun r e => by cases e; exact ⟨_, Kt, rfl⟩)
   have c6 := cell_kept Qb U (fun r e => by cases e; exact ⟨_, Kt, rfl⟩)
   have Qc := K8.trans (belowK_b (w := w) (Nat.le_refl _) _ D _ (.deferred none) (by omega) Kt rfl rfl)
   have Qd := K9.grown U (B := W0.heap.size) (fun r e => by cases e; exact hD) (fun b hb => by have G : b = w.heap.size + 1 + 1 + 1 := hb; omega)
   refine ⟨.tuple #[.slice (some ⟨w.heap.size + 1 + 1 + 1, 0, none⟩) (limbs (val C)).length (limbs (val C)).length, .int .u64 (r : Int), .int .i64 0], ?_, .slice (some ⟨w.heap.size + 1 + 1 + 1, 0, none⟩) (limbs (val C)).length (limbs (val C)).length, ?_, ?_, Qc⟩
   · simp [results, Tryz.f284, go_sem, c5, c6]
   · rw [← Qm.out]
   · have hq := (isN_trimU Ql.out Qd)
     exact hq.mono ⟨fun b hb => by have G : b = w.heap.size + 1 + 1 + 1 := hb; show w.heap.size ≤ b; omega, fun h => h⟩
 case stop =>
  rintro D c J W hD ⟨k, Qx, Qy⟩ ⟨hf, _⟩ F
  exact hf.elim
end
open Go.RowKit
theorem ddiv_one {w : World} {y : Nat} (ha : IsN w Z a m) (hb : IsN w Y b y) (hy0 : 0 < y) (hy : y < 18446744073709551616) (hl : (limbs m).length ≤ 20000000000) :
  Calls Tryz.prog 278 #[a, b] w fun e w' => ∃ q r, e = .returned (.tuple #[q, r, .int .i64 0]) ∧ IsN w' (new w.heap.size) q (m / y) ∧ IsN w' (new w.heap.size) r (m % y) ∧ Below w.heap.size w w' := by
 have D := dchecked_any ha hb
 rw [errD_good hy0] at D
 have F := dword_good ha hy0 hy hl
 have G : limbs y = [y] := limbs_one hy0 hy
 have H : ∀ C, Calls Tryz.prog 110 #[.int .u64 ((m % y : Nat) : Int)] C (fun e w' => ∃ v, e = .returned v ∧ IsN w' (new C.heap.size) v (m % y) ∧ Below C.heap.size C w') := fun C => of_any (Nat.lt_trans (Nat.mod_lt _ hy0) hy)
 obtain ⟨A, P, rfl, Q⟩ := ha
 obtain ⟨B, R, rfl, E⟩ := hb
 rw [G] at E D ⊢
 obtain ⟨S, T, rfl, _, d, _, I⟩ := E.open (by simp)
 have L := I 0 (by simp)
 simp only [List.getElem_cons_zero, Nat.add_zero] at L
 generalize (limbs m).length = la at *
 generalize m % y = r at *
 obtain ⟨U, V, W⟩ := hid3 D F H
 clear D F H G Q E I
 show Calls Tryz.prog 278 #[.slice A la P, .slice (some ⟨S, T, none⟩) 1 R] w _
 go_enter Tryz.func278, Tryz.ntmps278
 go_wp2_with fail
 refine U.out.mono ?_
 rintro e C ⟨rfl, rfl⟩
 go_wp2_with fail
 refine V.out.mono ?_
 rintro e C ⟨q, rfl, X, J⟩
 go_wp2_with fail
 refine (W.out _).mono ?_
 rintro e g ⟨v, rfl, c, K⟩
 have M := X.below K
 have N := c.mono (new_le J.size)
 have O := from_ J K
 go_wp2
 go_ret3
 exact ⟨_, _, rfl, M, N, O⟩
theorem ddiv_less {w : World} {n : Nat} (ha : IsN w Z a m) (hb : IsN w Y b n) (h2 : 2 ≤ (limbs n).length) (hlt : (limbs m).length < (limbs n).length) (hl : (limbs m).length ≤ 20000000000) :
  Calls Tryz.prog 278 #[a, b] w fun e w' => ∃ q r, e = .returned (.tuple #[q, r, .int .i64 0]) ∧ IsN w' (new w.heap.size) q (m / n) ∧ IsN w' (new w.heap.size) r (m % n) ∧ Below w.heap.size w w' := by
 have E := limbs_len_lt hlt
 have C := dchecked_any ha hb
 rw [errD_good (by omega)] at C
 rw [Nat.div_eq_of_lt E, Nat.mod_eq_of_lt E]
 obtain ⟨A, I, rfl, D⟩ := ha
 obtain ⟨B, U, rfl, J⟩ := hb
 have F := clone_any (n := (limbs m).length) rfl D (by omega)
 have G : Calls Tryz.prog 108 #[.slice A (limbs m).length I] w (fun e w' => ∃ v, e = .returned v ∧ IsN w' (new w.heap.size) v m ∧ Below w.heap.size w w') := by
  refine F.mono ?_
  rintro e V ⟨v, rfl, H, K⟩
  obtain ⟨L, M, rfl⟩ := own_shape H
  exact ⟨_, rfl, ⟨L, M, rfl, isU_after D.small rfl H (Nat.le_refl _)⟩, K⟩
 obtain ⟨N, O⟩ := hid2 G C
 clear G F C D J
 generalize (limbs m).length = la at *
 generalize (limbs n).length = lb at *
 have S : ((lb : Int) == 1) = false := beq_eq_false_iff_ne.2 (by omega)
 have T : decide (la < lb) = true := decide_eq_true hlt
 go_enter Tryz.func278, Tryz.ntmps278
 go_wp2_with fail
 refine O.out.mono ?_
 rintro e P ⟨rfl, rfl⟩
 go_wp2_with fail
 refine N.out.mono ?_
 rintro e P ⟨v, rfl, Q, R⟩
 go_wp2
 go_ret3
 exact ⟨_, _, rfl, IsN.zero _ _, Q, R⟩
theorem ddiv_good {w : World} {n : Nat} (ha : IsN w Z a m) (hb : IsN w Y b n) (hn : 0 < n) (hl : (limbs m).length ≤ 20000000000) :
  Calls Tryz.prog 278 #[a, b] w fun e w' => ∃ q r, e = .returned (.tuple #[q, r, .int .i64 0]) ∧ IsN w' (new w.heap.size) q (m / n) ∧ IsN w' (new w.heap.size) r (m % n) ∧ Below w.heap.size w w' := by
 have C : 0 < (limbs n).length := len_pos.2 (by omega)
 by_cases h1 : (limbs n).length = 1
 · have B : n < 18446744073709551616 := by
    have := lt_pow_len n
    rw [h1] at this
    simpa using this
   exact ddiv_one ha hb hn B hl
 · rcases Nat.lt_or_ge (limbs m).length (limbs n).length with h | h
   · exact ddiv_less ha hb (by omega) h hl
   · exact ddiv_long ha hb (by omega) h hl
def tq (x y : Int) : Int := if decide (x < 0) = decide (y < 0) then ((x.natAbs / y.natAbs : Nat) : Int) else -((x.natAbs / y.natAbs : Nat) : Int)
theorem tq_enc (x y : Int) : ((decide (x < 0) != decide (y < 0)) && decide (0 < (limbs (x.natAbs / y.natAbs)).length)) = decide (tq x y < 0) ∧ limbs (tq x y).natAbs = limbs (x.natAbs / y.natAbs) := by
 unfold tq
 generalize x.natAbs / y.natAbs = q
 by_cases h : decide (x < 0) = decide (y < 0)
 · rw [if_pos h, h]
   refine ⟨?_, by rw [Int.natAbs_natCast]⟩
   rw [decide_eq_false (show ¬ ((q : Int) < 0) by omega)]
   simp
 · rw [if_neg h]
   refine ⟨?_, by rw [Int.natAbs_neg, Int.natAbs_natCast]⟩
   have A : (decide (x < 0) != decide (y < 0)) = true := by simpa using h
   rw [A, Bool.true_and]
   exact decide_eq_decide.2 (by rw [len_pos]; omega)
theorem res_int4 {fn : Func} {p u v x : Tmp} (h : fn.results = #[.cell p 35, .tmp u, .tmp v, .tmp x]) (tmps : Array Value) {w : World} (g : Nat) {v0 v1 : Value} (hp : tmps.getD p undef = .pointer (some ⟨g, 0, none⟩)) (h0 : w.cell? ⟨g, 0, none⟩ = some v0) (h1 : w.cell? ⟨g, 1, none⟩ = some v1) :
  (results fn tmps).run Tryz.prog w = .ok (.tuple #[.agg #[v0, v1], tmps.getD u undef, tmps.getD v undef, tmps.getD x undef]) w := by
 have B : tmps[p]?.getD undef = .pointer (some ⟨g, 0, none⟩) := by simpa using hp
 simp [results, h, B, asAddr, loadVar_int h0 h1]
theorem wquot_good {w : World} {x y : Int} (ha : IsZ w Z a x) (hb : IsZ w Y b y) (hy : y ≠ 0) (hl : (limbs x.natAbs).length ≤ 10000000000) :
  Calls Tryz.prog 266 #[a, b] w fun e w' => ∃ q, e = .returned (.tuple #[q, .bool (decide (0 < (limbs (x.natAbs % y.natAbs)).length)), .bool (decide (x < 0) != decide (y < 0)), .int .i64 0]) ∧ IsZ w' (new w.heap.size) q (tq x y) ∧ Below w.heap.size w w' := by
 obtain ⟨F, Kh⟩ := tq_enc x y
 have u : 0 < y.natAbs := by omega
 have J := IsZ.ok x
 have K := IsZ.ok y
 obtain ⟨_, rfl, A, C, rfl, X⟩ := ha
 obtain ⟨_, rfl, B, D, rfl, d⟩ := hb
 obtain ⟨m, hm⟩ : ∃ m, m = x.natAbs := ⟨_, rfl⟩
 obtain ⟨n, hn⟩ : ∃ n, n = y.natAbs := ⟨_, rfl⟩
 unfold IsZ
 rw [Kh]
 rw [← hm] at X hl F J ⊢
 rw [← hn] at d u F K ⊢
 obtain ⟨s, hs⟩ : ∃ s, s = decide (x < 0) := ⟨_, rfl⟩
 obtain ⟨t, ht⟩ : ∃ t, t = decide (y < 0) := ⟨_, rfl⟩
 obtain ⟨g, Ki⟩ : ∃ g, g = decide (tq x y < 0) := ⟨_, rfl⟩
 rw [← hs] at F J ⊢
 rw [← ht] at F K ⊢
 rw [← Ki] at F ⊢
 have P : IsN w Z (.slice A (limbs m).length C) m := ⟨A, C, rfl, X⟩
 have Q : IsN w Y (.slice B (limbs n).length D) n := ⟨B, D, rfl, d⟩
 obtain ⟨bA, bB, bR, E⟩ := boxes3 w (.bool s) (.slice A (limbs m).length C) (.bool t) (.slice B (limbs n).length D) (.bool false) (.slice none 0 0) 35
 have R := given_twoI (s := s) (t := t) (ty := 35) (IsU.below P E) (IsU.below Q E)
 have v : (((w.alloc (.cells #[.bool s, .slice A (limbs m).length C] 35)).alloc (.cells #[.bool t, .slice B (limbs n).length D] 35)).alloc (.cells #[.bool false, .slice none 0 0] 35)).heap.size = w.heap.size + 3 := by simp
 rw [v] at R
 have S := wchecked_any (n := 2) (c := 2) R rfl (by simp)
 have z : errCs [(s, limbs m), (t, limbs n)] = 0 := by simp [errCs, J, K]
 rw [z] at S
 have Ka := E.alloc E.size (.cells #[.bool s, .slice A (limbs m).length C, .bool t, .slice B (limbs n).length D] 35)
 have Kb := fun (N : World) (h : Below w.heap.size w N) => ddiv_good (P.below h) (Q.below h) u (by omega)
 obtain ⟨Kj, Kl, Km⟩ := hid3 S Kb F
 clear R v X d S Kb z hs ht Ki F Kh hm hn P Q J K
 obtain ⟨H, L, _, _, _⟩ := bA
 obtain ⟨I, M, _, _, _⟩ := bB
 generalize (limbs m).length = lm at *
 generalize (limbs n).length = ln at *
 have H := keepC (Below.refl_alloc E (.cells #[.bool s, .slice A lm C, .bool t, .slice B ln D] 35)) H
 have L := keepC (Below.refl_alloc E (.cells #[.bool s, .slice A lm C, .bool t, .slice B ln D] 35)) L
 have I := keepC (Below.refl_alloc E (.cells #[.bool s, .slice A lm C, .bool t, .slice B ln D] 35)) I
 have M := keepC (Below.refl_alloc E (.cells #[.bool s, .slice A lm C, .bool t, .slice B ln D] 35)) M
 cases s <;> cases t
 all_goals
  go_enter Tryz.func266, Tryz.ntmps266
  go_wp2_with fail
  refine Kj.out.mono ?_
  rintro e N ⟨rfl, G⟩
  have T := (bR.alloc (.cells #[.bool _, .slice A lm C, .bool _, .slice B ln D] 35)).below G
  have H := keepC G H
  have L := keepC G L
  have I := keepC G I
  have M := keepC G M
  have U := from_ Ka G
  have Kk : w.heap.size + 2 < N.heap.size := T.lt
  clear bR E Ka Kj G
  go_wp2_with fail
  refine (Kl.out _ U).mono ?_
  rintro e w2 ⟨_, _, rfl, ⟨i, j, rfl, hq⟩, ⟨Ar, cr, rfl, hr⟩, O⟩
  have V : IsU w2 _ (.slice i (limbs (m / n)).length j) (limbs (m / n)) := ⟨i, j, rfl, hq⟩
  have H := keepC O H
  have I := keepC O I
  have Kc := T.below O
  have Kd := from_ U O
  have Kn : w.heap.size + 2 < N.heap.size := Kk
  clear hr hq T U
  go_wp2_with fail
  refine (made_at V Km.out).mono ?_
  rintro e w3 ⟨rfl, o⟩
  have Ke := Kc.below o
  have W := Ke.put (from_ Kd o) (by omega) (.bool g) (.slice i (limbs (m / n)).length j)
  have Kf := W.keep (by omega) (V.below o)
  obtain ⟨Hu, r⟩ := hid2 Kf W
  obtain ⟨q0, q1, f0, f1, _⟩ := Ke
  clear W Kf V Kc Kd
  have Kg : decide ((0 : Int) < ((limbs (m % n)).length : Int)) = decide (0 < (limbs (m % n)).length) := decide_eq_decide.2 (by omega)
  have Ko := hid Kg
  clear Kg
  go_wp2
  refine bodyPost_ret (res_int4 rfl _ (w.heap.size + 2) rfl r.out.c0 r.out.c1) rfl ?_
  refine ⟨_, ?_, ⟨_, rfl, Hu.out⟩, r.out.bel⟩
  first | rfl | (simp; done)
end Go.Proofs.YtdncgncijbnjpaaGreat
