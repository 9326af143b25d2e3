/- The document's own answer, layer 5: Turned. No conditions but bounds on lengths. -/
import Derived.Deep.RegionLaw
import Derived.Deep.RegionHeld3
import Derived.Test.YthpngihjcphigaaGreatVW5D
import Derived.Test.YthpngihjcphigaaGreatVWhH
set_option linter.unusedVariables false
set_option linter.unusedSimpArgs false
set_option maxRecDepth 100000
set_option maxHeartbeats 40000000
namespace Go.Proofs.YthpngihjcphigaaGreat
open Go.Lib (hid)
open Go.RowKit
variable {Z : Zone} {a : Value} {l : List Nat} {s : Bool} {w : World} {x : Int}
theorem step_appU {P : Program} {ops : Array Oper} {o : Oper} {a : Act} {K : Act → World → Prop} {Q : Exit → Act → World → Prop} {E : Prop}
  (hg : o.guard = none) (s x : Operand) (t : TypeId) (hop : o.op = Op.call { callee := Callee.builtin Builtin.append, args := #[s, x], argTypes := #[t, t] })
  (base : Nat) (e : TypeId) (i : TypeInfo) (h1 : P.underlying t = some (.slice e)) (h2 : P.info? e = some i) (h3 : i.zero = some (.int .u64 0)) (h4 : i.size = 1) (h5 : i.bytes = 8)
  (hs : a.eval s = .slice none 0 0) {A : Option Addr} {m c : Nat} (hm : m = l.length) (hx : a.eval x = .slice A m c) (hl : U64s w Z A c l) (hb : m ≤ 1000000000000) (hbase : base ≤ w.heap.size)
  (hK : ∀ v' w', w'.ownsRow base e 1 v' m (l.map fun x : Nat => Value.int .u64 (x : Int)) → w.grownBy w' none → K (a.put o.dst v') w') :
  if Region.wanted o (yielded ops a.tmps) = true then Oper.wp P o a w K Q else E := by
 have hw : Region.wanted o (yielded ops a.tmps) = true := by simp [Region.wanted, hg]
 rw [if_pos hw]
 subst hm
 have hown : w.ownsRow base e 1 (.slice none 0 0) 0 [] := World.ownsRow_nil _ _ _ _
 rcases A with _ | ad
 · have hc := hl.nul rfl
   have hcap := hl.cap
   have h0 : l = [] := List.length_eq_zero_iff.1 (by omega)
   subst h0
   subst hc
   have hrun := run_append_owned_none (P := P) w base t o.type e i 1 h1 h2 _ 0 [] hown
   unfold Oper.wp
   simp only [List.length_nil] at hx
   simp [execOp, hop, resolve, invoke, builtin, hs, hx, hrun, Result.andThen]
   exact hK (.slice none 0 0) w (by simpa using hown) (World.grownBy.refl _ _)
 · obtain ⟨v', w', hrun, r1, r2, _⟩ := run_append_own (P := P) w base t o.type e i (.int .u64 0) 1 8 h1 h2 h3 h4 h5 rfl (by omega) (.slice none 0 0) 0 [] hown ad l.length c (l.map fun x : Nat => Value.int .u64 (x : Int)) (by simp)
    (fun j u hu => by
     have hj : j < l.length := by have := (List.getElem?_eq_some_iff.1 hu).1; simpa using this
     obtain ⟨b, o', e1, _, _, hc⟩ := hl.row (by simp; omega)
     injection e1 with e1
     subst e1
     rw [Addr.add_lit]
     exact hc j u hu)
    (fun u hu => by
     obtain ⟨y, _, rfl⟩ := List.mem_map.1 hu
     rfl) (by simp only [maxLen]; omega) (by omega) hbase
   unfold Oper.wp
   simp [execOp, hop, resolve, invoke, builtin, hs, hx, hrun, Result.andThen]
   exact hK v' w' (by simpa using r1) r2
theorem r5turned_any {sg : Bool} (ha : IsI w Z a s l) (hl : l.length ≤ 90000000000) (hsg : (!s && decide (0 < l.length)) = sg) :
  Calls Tryz.prog 89 #[a] w fun e w' => ∃ Av cv, e = .returned (.agg #[.bool sg, .slice Av l.length cv]) ∧ IsU w' (new w.heap.size) (.slice Av l.length cv) l ∧ Below w.heap.size w w' := by
 obtain ⟨_, rfl, A, c, rfl, hu⟩ := ha
 obtain ⟨bA, bR, hB0⟩ := boxes2 w (.bool s) (.slice A l.length c) (.bool false) (.slice none 0 0) 25
 obtain ⟨a0, a1, _, _, _⟩ := bA
 obtain ⟨i0, hi, hz0, hz1, hz2⟩ := info_parts Tryz.info95
 have hu0 := hu.below hB0
 have hsm := hu.small
 have hlen := hu.len
 clear hu
 have hcase : (s = true ∧ sg = false) ∨ (s = false ∧ l.length = 0 ∧ sg = false) ∨ (s = false ∧ 0 < l.length ∧ sg = true) := by
  cases s
  · rcases Nat.eq_zero_or_pos l.length with h | h
    · exact .inr (.inl ⟨rfl, h, by rw [← hsg, decide_eq_false (by omega)]; rfl⟩)
    · exact .inr (.inr ⟨rfl, h, by rw [← hsg, decide_eq_true h]; rfl⟩)
  · exact .inl ⟨rfl, hsg.symm⟩
 clear hsg
 have hBd : Below w.heap.size w ((w.alloc (.cells #[.bool s, .slice A l.length c] 25)).alloc (.cells #[.bool false, .slice none 0 0] 25)).drew := hB0.drew
 have hud := hu0.below (bdr_)
 have bRd := bR.below (bdr_)
 have hszd : ((w.alloc (.cells #[.bool s, .slice A l.length c] 25)).alloc (.cells #[.bool false, .slice none 0 0] 25)).drew.heap.size = w.heap.size + 2 := by simp
 have Hszd := hid hszd
 clear hszd
 have a0d := (show ((w.alloc (.cells #[.bool s, .slice A l.length c] 25)).alloc (.cells #[.bool false, .slice none 0 0] 25)).drew.cell? ⟨w.heap.size, 0, none⟩ = _ from a0)
 have a1d := (show ((w.alloc (.cells #[.bool s, .slice A l.length c] 25)).alloc (.cells #[.bool false, .slice none 0 0] 25)).drew.cell? ⟨w.heap.size, 1, none⟩ = _ from a1)
 rcases hcase with ⟨rfl, rfl⟩ | ⟨rfl, h0, rfl⟩ | ⟨rfl, h0, rfl⟩
 · go_enter Tryz.func89, Tryz.ntmps89
   go_wp2
   first | go_region_law
    ((refine step_appU rfl _ _ 23 rfl (w.heap.size + 2) 95 i0 Tryz.underlying23 hi hz0 hz1 hz2 rfl rfl rfl hud (by omega) (by simp) ?_; intro v' w1 hown hgrow; have hb1 := (Below.refl (w.heap.size + 2) _).grown hgrow (by simp) (fun k h => by cases h); have k0 := (hb1.cell (p := ⟨w.heap.size, 0, none⟩) (by show w.heap.size < _; omega)).trans a0d; have k1 := (hb1.cell (p := ⟨w.heap.size, 1, none⟩) (by show w.heap.size < _; omega)).trans a1d; obtain ⟨Av, cv, rfl⟩ := own_shape hown; obtain ⟨q0, q1, f0, f1, _⟩ := bRd.below (hb1.mono (Nat.le_of_eq Hszd.out)))) | fail
   all_goals
    have hb2 := hb1.mono (B' := ((w.alloc (.cells #[.bool true, .slice A l.length c] 25)).alloc (.cells #[.bool false, .slice none 0 0] 25)).drew.heap.size) (Nat.le_of_eq Hszd.out)
    have hP := (bRd.below hb2).put (from_ hBd hb2) (by omega) (.bool false) (.slice Av l.length cv)
    have hv : IsU w1 (new (w.heap.size + 2)) (.slice Av l.length cv) l := ⟨Av, cv, rfl, isU_after hsm rfl hown (Nat.le_refl _)⟩
    have hu2 := hP.keep (by omega) hv
    obtain ⟨Hu, HP⟩ := hid2 hu2 hP
    clear hv hu2 hP hown
    go_wp2
    refine bodyPost_ret (res_int rfl _ (w.heap.size + 1) rfl HP.out.c0 HP.out.c1) rfl ?_
    exact ⟨_, _, rfl, Hu.out, HP.out.bel⟩
 · have hd : decide ((0 : Int) < (l.length : Int)) = false := decide_eq_false (by omega)
   have hd2 : decide (0 < l.length) = false := decide_eq_false (by omega)
   have H0 := hid h0
   clear h0
   go_enter Tryz.func89, Tryz.ntmps89
   go_wp2
   first | go_region_held3 (fun w' => w'.cell? ⟨w.heap.size, 0, none⟩ = some (.bool false) ∧ w'.cell? ⟨w.heap.size, 1, none⟩ = some (.slice A l.length c))
    (first
     | go_keep
     | exact ⟨k0, k1⟩)
    ((refine step_appU rfl _ _ 23 rfl (w.heap.size + 2) 95 i0 Tryz.underlying23 hi hz0 hz1 hz2 rfl rfl rfl hud (by omega) (by simp) ?_; intro v' w1 hown hgrow; have hb1 := (Below.refl (w.heap.size + 2) _).grown hgrow (by simp) (fun k h => by cases h); have k0 := (hb1.cell (p := ⟨w.heap.size, 0, none⟩) (by show w.heap.size < _; omega)).trans a0d; have k1 := (hb1.cell (p := ⟨w.heap.size, 1, none⟩) (by show w.heap.size < _; omega)).trans a1d; obtain ⟨Av, cv, rfl⟩ := own_shape hown; obtain ⟨q0, q1, f0, f1, _⟩ := bRd.below (hb1.mono (Nat.le_of_eq Hszd.out)))) | fail
   all_goals
    have hb2 := hb1.mono (B' := ((w.alloc (.cells #[.bool false, .slice A l.length c] 25)).alloc (.cells #[.bool false, .slice none 0 0] 25)).drew.heap.size) (Nat.le_of_eq Hszd.out)
    have hP := (bRd.below hb2).put (from_ hBd hb2) (by omega) (.bool false) (.slice Av l.length cv)
    have hv : IsU w1 (new (w.heap.size + 2)) (.slice Av l.length cv) l := ⟨Av, cv, rfl, isU_after hsm rfl hown (Nat.le_refl _)⟩
    have hu2 := hP.keep (by omega) hv
    obtain ⟨Hu, HP⟩ := hid2 hu2 hP
    clear hv hu2 hP hown
    go_wp2
    refine bodyPost_ret (res_int rfl _ (w.heap.size + 1) rfl HP.out.c0 HP.out.c1) rfl ?_
    exact ⟨_, _, rfl, Hu.out, HP.out.bel⟩
 · have hd : (0 : Int) < (l.length : Int) := by omega
   go_enter Tryz.func89, Tryz.ntmps89
   go_wp2
   first | go_region_held3 (fun w' => w'.cell? ⟨w.heap.size, 0, none⟩ = some (.bool false) ∧ w'.cell? ⟨w.heap.size, 1, none⟩ = some (.slice A l.length c))
    (first
     | go_keep
     | exact ⟨k0, k1⟩)
    ((refine step_appU rfl _ _ 23 rfl (w.heap.size + 2) 95 i0 Tryz.underlying23 hi hz0 hz1 hz2 rfl rfl rfl hud (by omega) (by simp) ?_; intro v' w1 hown hgrow; have hb1 := (Below.refl (w.heap.size + 2) _).grown hgrow (by simp) (fun k h => by cases h); have k0 := (hb1.cell (p := ⟨w.heap.size, 0, none⟩) (by show w.heap.size < _; omega)).trans a0d; have k1 := (hb1.cell (p := ⟨w.heap.size, 1, none⟩) (by show w.heap.size < _; omega)).trans a1d; obtain ⟨Av, cv, rfl⟩ := own_shape hown; obtain ⟨q0, q1, f0, f1, _⟩ := bRd.below (hb1.mono (Nat.le_of_eq Hszd.out)))) | fail
   all_goals
    have hb2 := hb1.mono (B' := ((w.alloc (.cells #[.bool false, .slice A l.length c] 25)).alloc (.cells #[.bool false, .slice none 0 0] 25)).drew.heap.size) (Nat.le_of_eq Hszd.out)
    have hP := (bRd.below hb2).put (from_ hBd hb2) (by omega) (.bool true) (.slice Av l.length cv)
    have hv : IsU w1 (new (w.heap.size + 2)) (.slice Av l.length cv) l := ⟨Av, cv, rfl, isU_after hsm rfl hown (Nat.le_refl _)⟩
    have hu2 := hP.keep (by omega) hv
    obtain ⟨Hu, HP⟩ := hid2 hu2 hP
    clear hv hu2 hP hown
    go_wp2
    refine bodyPost_ret (res_int rfl _ (w.heap.size + 1) rfl HP.out.c0 HP.out.c1) rfl ?_
    exact ⟨_, _, rfl, Hu.out, HP.out.bel⟩
theorem IsI.old {v : Value} (h : IsI w Z v s l) : IsI w old v s l := h.mono (le_old _)
theorem r5turned_good (ha : IsZ w Z a x) (hl : (limbs x.natAbs).length ≤ 10000000000) :
  Calls Tryz.prog 89 #[a] w fun e w' => ∃ Bv dv, e = .returned (.agg #[.bool (decide (-x < 0)), .slice Bv (limbs (-x).natAbs).length dv]) ∧ IsZ w' (new w.heap.size) (.agg #[.bool (decide (-x < 0)), .slice Bv (limbs (-x).natAbs).length dv]) (-x) ∧ Below w.heap.size w w' := by
 have hsg : (!decide (x < 0) && decide (0 < (limbs x.natAbs).length)) = decide (-x < 0) := by
  by_cases h : x < 0
  · rw [decide_eq_true h, decide_eq_false (show ¬ -x < 0 by omega)]; rfl
  · rw [decide_eq_false h]
    have e : decide (0 < (limbs x.natAbs).length) = decide (-x < 0) := decide_eq_decide.2 (by rw [len_pos]; omega)
    rw [e]; rfl
 refine (r5turned_any ha (by omega) hsg).mono ?_
 rintro e w1 ⟨Bv, dv, rfl, hv, hb⟩
 rw [Int.natAbs_neg]
 refine ⟨Bv, dv, rfl, ?_, hb⟩
 unfold IsZ
 rw [Int.natAbs_neg]
 exact ⟨_, rfl, hv⟩
theorem r5compared_good {Y : Zone} {b : Value} {y : Int} (ha : IsZ w Z a x) (hb : IsZ w Y b y) (hl : (limbs x.natAbs).length ≤ 9000) (hl2 : (limbs y.natAbs).length ≤ 9000) :
  Calls Tryz.prog 88 #[a, b] w fun e w' => e = .returned (.int .i64 (sgn (x - y))) ∧ Below w.heap.size w w' := by
 have hT := fun (w1 : World) (h : Below w.heap.size w w1) => r5turned_good (hb.below h) (by omega)
 have hS := fun (w1 w2 : World) (h : Below w.heap.size w w1) (v : Value) (Z' : Zone) (hv : IsZ w1 Z' v (-y)) => r5sum_good (ha.below h) hv (by omega) (by rw [Int.natAbs_neg]; omega)
 have hxy : x + -y = x - y := by omega
 rw [hxy] at hS
 obtain ⟨_, rfl, A, ca, rfl, hu⟩ := ha
 obtain ⟨_, rfl, B, cb, rfl, hv⟩ := hb
 obtain ⟨bA, bB, hB0⟩ := boxes2 w (.bool (decide (x < 0))) (.slice A (limbs x.natAbs).length ca) (.bool (decide (y < 0))) (.slice B (limbs y.natAbs).length cb) 25
 obtain ⟨a0, a1, _, _, _⟩ := bA
 obtain ⟨b0, b1, _, _, _⟩ := bB
 obtain ⟨s, hs⟩ : ∃ s, s = decide (x < 0) := ⟨_, rfl⟩
 obtain ⟨t, ht⟩ : ∃ t, t = decide (y < 0) := ⟨_, rfl⟩
 obtain ⟨l, hL⟩ : ∃ l, l = limbs x.natAbs := ⟨_, rfl⟩
 obtain ⟨k, hK⟩ : ∃ k, k = limbs y.natAbs := ⟨_, rfl⟩
 rw [← hs, ← hL] at a0 a1 hB0 b0 b1 hS ⊢
 rw [← ht, ← hK] at a0 a1 hB0 b0 b1 hT ⊢
 obtain ⟨u, hu1⟩ : ∃ u, u = decide (-y < 0) := ⟨_, rfl⟩
 obtain ⟨k', hk1⟩ : ∃ k', k' = limbs (-y).natAbs := ⟨_, rfl⟩
 have hT2 := (hT _ hB0.drew)
 rw [← hu1, ← hk1] at hT2
 obtain ⟨d, hd⟩ : ∃ d, d = sgn (x - y) := ⟨_, rfl⟩
 have hG : ∀ w1 Z' v, IsZ w1 Z' v (x - y) → Calls Tryz.prog 120 #[v] w1 (fun e w' => e = .returned (.int .i64 d) ∧ Below w1.heap.size w1 w') := fun w1 Z' v h => by
  rw [hd]
  exact r5signed_good h
 rw [← hd]
 obtain ⟨z, hz⟩ : ∃ z, z = x - y := ⟨_, rfl⟩
 obtain ⟨y', hy'⟩ : ∃ y', y' = -y := ⟨_, rfl⟩
 rw [← hz] at hG hS
 rw [← hy'] at hT2 hS
 obtain ⟨HT, HG, HS, HBd⟩ := hid4 hT2 hG hS hB0.drew
 clear hT hT2 hG hS hu hv hl hl2 hxy hs ht hL hK hB0 hu1 hk1 hd hz hy'
 have a0d := (show ((w.alloc (.cells #[.bool s, .slice A l.length ca] 25)).alloc (.cells #[.bool t, .slice B k.length cb] 25)).drew.cell? ⟨w.heap.size, 0, none⟩ = _ from a0)
 have a1d := (show ((w.alloc (.cells #[.bool s, .slice A l.length ca] 25)).alloc (.cells #[.bool t, .slice B k.length cb] 25)).drew.cell? ⟨w.heap.size, 1, none⟩ = _ from a1)
 have b0d := (show ((w.alloc (.cells #[.bool s, .slice A l.length ca] 25)).alloc (.cells #[.bool t, .slice B k.length cb] 25)).drew.cell? ⟨w.heap.size + 1, 0, none⟩ = _ from b0)
 have b1d := (show ((w.alloc (.cells #[.bool s, .slice A l.length ca] 25)).alloc (.cells #[.bool t, .slice B k.length cb] 25)).drew.cell? ⟨w.heap.size + 1, 1, none⟩ = _ from b1)
 go_enter Tryz.func88, Tryz.ntmps88
 go_wp2
 first | go_region_held3 (fun w' => w'.cell? ⟨w.heap.size, 0, none⟩ = some (.bool s) ∧ w'.cell? ⟨w.heap.size, 1, none⟩ = some (.slice A l.length ca) ∧ w'.cell? ⟨w.heap.size + 1, 0, none⟩ = some (.bool t) ∧ w'.cell? ⟨w.heap.size + 1, 1, none⟩ = some (.slice B k.length cb))
  (first
   | go_keep
   | exact ⟨p0, p1, q0, q1⟩
   | exact ⟨p2, p3, q2, q3⟩
   | exact ⟨p4, p5, q4, q5⟩)
  (first
   | (go_at_call 89; refine HT.out.mono ?_; rintro e w1 ⟨Bv, dv, rfl, hv1, hc1⟩; have p0 := keepC hc1 a0d; have p1 := keepC hc1 a1d; have q0 := keepC hc1 b0d; have q1 := keepC hc1 b1d; have hBB1 := hid (from_ HBd.out hc1))
   | (go_at_call 90; refine (HS.out _ w1 hBB1.out _ _ hv1).mono ?_; rintro e w2 ⟨_, rfl, hv2, hc2⟩; have p2 := keepC hc2 p0; have p3 := keepC hc2 p1; have q2 := keepC hc2 q0; have q3 := keepC hc2 q1; have hBB2 := hid (from_ hBB1.out hc2))
   | (go_at_call 120; refine (HG.out _ _ _ hv2).mono ?_; rintro e w3 ⟨rfl, hc3⟩; have p4 := keepC hc3 p2; have p5 := keepC hc3 p3; have q4 := keepC hc3 q2; have q5 := keepC hc3 q3; have hBB3 := hid (from_ hBB2.out hc3))) | fail
 all_goals
  go_wp2
  go_ret
  exact ⟨rfl, hBB3.out⟩
end Go.Proofs.YthpngihjcphigaaGreat
