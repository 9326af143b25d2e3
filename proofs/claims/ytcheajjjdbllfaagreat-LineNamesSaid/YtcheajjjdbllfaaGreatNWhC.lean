/- Whole numbers: sums. No conditions but bounds on lengths. -/
import Derived.Laws.ResultCell
import Derived.Test.YtcheajjjdbllfaaGreatNFrameB
import Derived.Test.YtcheajjjdbllfaaGreatNNatE
import Derived.Test.YtcheajjjdbllfaaGreatNNatD
set_option linter.unusedVariables false
set_option linter.unusedSimpArgs false
set_option maxRecDepth 100000
set_option maxHeartbeats 40000000
namespace Go.Proofs.YtcheajjjdbllfaaGreat
open Go.Lib (hid)
open Go.RowKit
variable {A : Option Addr} {F c g i j : Nat} {W w w' w1 : World} {Y Z : Zone} {a b u v v0 v1 : Value} {s : Bool} {x : Int}
theorem loadVar_int (h0 : w.cell? ⟨g, 0, none⟩ = some v0) (h1 : w.cell? ⟨g, 1, none⟩ = some v1) :
  (loadVar 25 ⟨g, 0, none⟩).run Tryz.prog w = .ok (.agg #[v0, v1]) w := by
 unfold loadVar
 go_simp
theorem res_int {fn : Func} {p : Tmp} (h : fn.results = #[.cell p 25]) (tmps : Array Value) (g : Nat) (hp : tmps.getD p undef = .pointer (some ⟨g, 0, none⟩)) (h0 : w.cell? ⟨g, 0, none⟩ = some v0) (h1 : w.cell? ⟨g, 1, none⟩ = some v1) :
  (results fn tmps).run Tryz.prog w = .ok (.agg #[v0, v1]) w := by
 have hp' : tmps[p]?.getD undef = .pointer (some ⟨g, 0, none⟩) := by simpa using hp
 simp [results, h, hp', asAddr, loadVar_int h0 h1]
theorem res_int2 {fn : Func} {p u : Tmp} (h : fn.results = #[.cell p 25, .tmp u]) (tmps : Array Value) (g : Nat) (hp : tmps.getD p undef = .pointer (some ⟨g, 0, none⟩)) (h0 : w.cell? ⟨g, 0, none⟩ = some v0) (h1 : w.cell? ⟨g, 1, none⟩ = some v1) :
  (results fn tmps).run Tryz.prog w = .ok (.tuple #[.agg #[v0, v1], tmps.getD u undef]) w := by
 rw [results_cell_tmp h, hp]
 simp [asAddr, Result.andThen, loadVar_int h0 h1]
theorem keepC (hb : Below W.heap.size W w1) (h : W.cell? ⟨g, i, none⟩ = some v) : w1.cell? ⟨g, i, none⟩ = some v := (hb.cell (p := ⟨g, i, none⟩) (lt_of_cell h)).trans h
theorem keepF (hb : Below W.heap.size W w1) (hg : g < W.heap.size) (h : W.frozen? ⟨g, i, none⟩ = false) : w1.frozen? ⟨g, i, none⟩ = false := ((bcell hb).2 g i hg).trans h
def IsZ (w : World) (Z : Zone) (v : Value) (x : Int) : Prop := IsI w Z v (decide (x < 0)) (limbs x.natAbs)
theorem IsZ.mono (h : IsZ w Z v x) (hz : Z.le Y) : IsZ w Y v x := IsI.mono h hz
theorem IsZ.below (h : IsZ w Z v x) (hb : Below w.heap.size w w') : IsZ w' Z v x := IsI.below h hb
theorem made_any {l : List Nat} (hu : IsU w Z u l) :
  Calls Tryz.prog 22 #[.bool s, u] w fun e w' => e = .returned (.agg #[.bool (s && decide (0 < l.length)), u]) ∧ Below w.heap.size w w' := by
 obtain ⟨A, c, rfl, hu⟩ := hu
 have hb0 : ∀ x, Below w.heap.size w (w.alloc (.cells x 25)) := fun x => (Below.refl _ w).alloc (Nat.le_refl _) _
 have Hb0 := hid hb0
 clear hu hb0
 cases s
 · go_enter Tryz.func22, Tryz.ntmps22
   go_wp2
   refine bodyPost_ret (res_int rfl _ w.heap.size rfl (cell_newest rfl rfl) (cell_newest rfl rfl)) rfl ?_
   exact ⟨rfl, Hb0.out _⟩
 · by_cases h0 : 0 < l.length
   · have hd : decide (0 < l.length) = true := decide_eq_true h0
     rw [hd]
     go_enter Tryz.func22, Tryz.ntmps22
     go_wp2
     refine bodyPost_ret (res_int rfl _ w.heap.size rfl (cell_newest rfl rfl) (cell_newest rfl rfl)) rfl ?_
     exact ⟨rfl, Hb0.out _⟩
   · have hd : decide (0 < l.length) = false := decide_eq_false h0
     rw [hd]
     have hd0 : decide ((0 : Int) < (l.length : Int)) = false := decide_eq_false (by omega)
     go_enter Tryz.func22, Tryz.ntmps22
     go_wp2
     refine bodyPost_ret (res_int rfl _ w.heap.size rfl (cell_newest rfl rfl) (cell_newest rfl rfl)) rfl ?_
     exact ⟨rfl, Hb0.out _⟩
theorem made_at {s' : Bool} {l : List Nat} (hu : IsU w Z u l) (hs : (s && decide (0 < l.length)) = s') :
  Calls Tryz.prog 22 #[.bool s, u] w fun e w' => e = .returned (.agg #[.bool s', u]) ∧ Below w.heap.size w w' := by
 subst hs
 exact made_any hu
theorem len_pos {m : Nat} : (0 < (limbs m).length) ↔ m ≠ 0 := by
 rw [List.length_pos_iff]
 exact not_congr limbs_eq_nil
structure Box (W : World) (g : Nat) (a b : Value) : Prop where
 c0 : W.cell? ⟨g, 0, none⟩ = some a
 c1 : W.cell? ⟨g, 1, none⟩ = some b
 f0 : W.frozen? ⟨g, 0, none⟩ = false
 f1 : W.frozen? ⟨g, 1, none⟩ = false
 lt : g < W.heap.size
theorem Box.new (w : World) (a b : Value) (t : TypeId) : Box (w.alloc (.cells #[a, b] t)) w.heap.size a b := ⟨cell_newest rfl rfl, cell_newest rfl rfl, by simp, by simp, by simp⟩
theorem Box.below {W' : World} (h : Box W g a b) (hb : Below W.heap.size W W') : Box W' g a b :=
 ⟨keepC hb h.c0, keepC hb h.c1, keepF hb h.lt h.f0, keepF hb h.lt h.f1, Nat.lt_of_lt_of_le h.lt hb.size⟩
theorem Box.alloc (h : Box W g a b) (o : Obj) : Box (W.alloc o) g a b := h.below ((Below.refl _ W).alloc (Nat.le_refl _) _)
structure Put (w W' : World) (g : Nat) (x y : Value) (W : World) : Prop where
 c0 : W'.cell? ⟨g, 0, none⟩ = some x
 c1 : W'.cell? ⟨g, 1, none⟩ = some y
 bel : Below w.heap.size w W'
 keep : ∀ {B : Nat} {u : Value} {l : List Nat}, g < B → IsU W (Go.Proofs.YtcheajjjdbllfaaGreat.new B) u l → IsU W' (Go.Proofs.YtcheajjjdbllfaaGreat.new w.heap.size) u l
 box : Box W' g x y
theorem Box.put (h : Box W g a b) (hB : Below w.heap.size w W) (hg : w.heap.size ≤ g) (x y : Value) :
  Put w ((W.setCell ⟨g, 0, none⟩ x).setCell ⟨g, 1, none⟩ y) g x y W := by
 have e0 : ((W.setCell ⟨g, 0, none⟩ x).setCell ⟨g, 1, none⟩ y).cell? ⟨g, 0, none⟩ = some x := by
  rw [World.cell?_setCell_other _ _ _ _ (by simp)]
  exact World.cell?_setCell_same _ _ _ h.c0
 have e1 : ((W.setCell ⟨g, 0, none⟩ x).setCell ⟨g, 1, none⟩ y).cell? ⟨g, 1, none⟩ = some y := by
  refine World.cell?_setCell_same _ _ _ (u := b) ?_
  rw [World.cell?_setCell_other _ _ _ _ (by simp)]
  exact h.c1
 refine ⟨e0, e1, (hB.setCell (p := ⟨g, 0, none⟩) hg _).setCell (p := ⟨g, 1, none⟩) hg _, fun {B u l} hgB hu => (hu.keep fun b' hb' _ => ?_).mono (new_le (by omega)), ⟨e0, e1, ?_, ?_, ?_⟩⟩
 · have hne : b' ≠ g := by have : B ≤ b' := hb'; omega
   rw [Below.heap_setCell _ _ _ _ hne, Below.heap_setCell _ _ _ _ hne]
 · exact (World.frozen?_setCell _ _ _ _).trans ((World.frozen?_setCell _ _ _ _).trans h.f0)
 · exact (World.frozen?_setCell _ _ _ _).trans ((World.frozen?_setCell _ _ _ _).trans h.f1)
 · have := h.lt
   simpa [World.setCell] using this
theorem wof_any {n : Int} (hn : -9223372036854775808 ≤ n ∧ n ≤ 9223372036854775807) :
  Calls Tryz.prog 11 #[.int .i64 n] w fun e w' => ∃ v, e = .returned v ∧ IsZ w' (new w.heap.size) v n ∧ Below w.heap.size w w' := by
 obtain ⟨m, hm⟩ : ∃ m, m = n.natAbs := ⟨_, rfl⟩
 have hmW : m < 18446744073709551616 := by omega
 have hb0 : Below w.heap.size w (w.alloc (.cells #[.bool false, .slice none 0 0] 25)) := (Below.refl _ w).alloc (Nat.le_refl _) _
 have box0 := Box.new w (.bool false) (.slice none 0 0) 25
 unfold IsZ
 rw [← hm]
 by_cases hneg : n < 0
 · obtain ⟨k, hk⟩ : ∃ k : Nat, (k : Int) = n + 18446744073709551616 := ⟨(n + 18446744073709551616).toNat, by omega⟩
   have e1 : IntKind.u64.wrap n = (k : Int) := by rw [IntKind.wrap_u64]; omega
   have e2 : IntKind.u64.wrap (-(k : Int)) = (m : Int) := by rw [IntKind.wrap_u64]; omega
   have hfin : (true && decide (0 < (limbs m).length)) = true := by
    rw [Bool.true_and]
    exact decide_eq_true (len_pos.2 (by omega))
   have Hfin := hid hfin
   rw [decide_eq_true (p := n < 0) hneg]
   clear hm hk hfin
   go_enter Tryz.func11, Tryz.ntmps11
   go_wp2_with fail
   refine (of_any hmW).mono ?_
   rintro e w1 ⟨u, rfl, ⟨Au, cu, rfl, hu'⟩, hb1⟩
   have hu : IsU w1 (new (w.alloc (.cells #[.bool false, .slice none 0 0] 25)).heap.size) (.slice Au (limbs m).length cu) (limbs m) := ⟨Au, cu, rfl, hu'⟩
   have box1 := box0.below hb1
   have hB := from_ hb0 hb1
   clear hu' box0 hb0 e1 e2
   go_wp2_with fail
   refine (made_at hu Hfin.out).mono ?_
   rintro e w2 ⟨rfl, hb2⟩
   have box2 := box1.below hb2
   have hB2 := from_ hB hb2
   have hP := box2.put hB2 (Nat.le_refl _) (.bool true) (.slice Au (limbs m).length cu)
   have hu2 := hP.keep (by simp) (hu.below hb2)
   obtain ⟨Hu, HP⟩ := hid2 hu2 hP
   obtain ⟨q0, q1, f0, f1, _⟩ := box2
   clear hu hu2 hP
   go_wp2
   refine bodyPost_ret (res_int rfl _ w.heap.size rfl HP.out.c0 HP.out.c1) rfl ?_
   exact ⟨_, rfl, ⟨_, rfl, Hu.out⟩, HP.out.bel⟩
 · have e1 : IntKind.u64.wrap n = (m : Int) := by rw [IntKind.wrap_u64]; omega
   have hd : decide (n < 0) = false := decide_eq_false hneg
   rw [hd]
   clear hm hneg
   go_enter Tryz.func11, Tryz.ntmps11
   go_wp2_with fail
   refine (of_any hmW).mono ?_
   rintro e w1 ⟨u, rfl, ⟨Au, cu, rfl, hu'⟩, hb1⟩
   have hu : IsU w1 (new (w.alloc (.cells #[.bool false, .slice none 0 0] 25)).heap.size) (.slice Au (limbs m).length cu) (limbs m) := ⟨Au, cu, rfl, hu'⟩
   have box1 := box0.below hb1
   have hB := from_ hb0 hb1
   clear hu' box0 hb0 e1
   go_wp2_with fail
   refine (made_at (s' := false) hu rfl).mono ?_
   rintro e w2 ⟨rfl, hb2⟩
   have box2 := box1.below hb2
   have hB2 := from_ hB hb2
   have hP := box2.put hB2 (Nat.le_refl _) (.bool false) (.slice Au (limbs m).length cu)
   have hu2 := hP.keep (by simp) (hu.below hb2)
   obtain ⟨Hu, HP⟩ := hid2 hu2 hP
   obtain ⟨q0, q1, f0, f1, _⟩ := box2
   clear hu hu2 hP
   go_wp2
   refine bodyPost_ret (res_int rfl _ w.heap.size rfl HP.out.c0 HP.out.c1) rfl ?_
   exact ⟨_, rfl, ⟨_, rfl, Hu.out⟩, HP.out.bel⟩
def okI (s : Bool) (l : List Nat) : Bool := good l && !(s && l.length == 0)
def errC (s : Bool) (l : List Nat) : Int := if okI s l = true then 0 else 8
def zof (s : Bool) (l : List Nat) : Int := if s = true then -(val l : Int) else (val l : Int)
theorem val_zero {l : List Nat} (h : good l = true) (hs : Small l) (h0 : val l = 0) : l = [] := by
 rw [← limbs_val l hs h, h0]
 rfl
theorem zof_enc {l : List Nat} (h : okI s l = true) (hs : Small l) : decide (zof s l < 0) = s ∧ limbs (zof s l).natAbs = l := by
 unfold okI at h
 rw [Bool.and_eq_true] at h
 obtain ⟨hg, h2⟩ := h
 have hl := limbs_val l hs hg
 cases s with
 | false =>
   simp only [zof, Bool.false_eq_true, if_false]
   exact ⟨decide_eq_false (by omega), by rw [Int.natAbs_natCast]; exact hl⟩
 | true =>
   simp only [zof, if_true]
   have h3 : val l ≠ 0 := fun h0 => by
    rw [val_zero hg hs h0] at h2
    simp at h2
   exact ⟨decide_eq_true (by omega), by rw [Int.natAbs_neg, Int.natAbs_natCast]; exact hl⟩
theorem IsI.num {l : List Nat} (h : IsI w Z v s l) (hk : okI s l = true) : IsZ w Z v (zof s l) := by
 obtain ⟨u, e, hu⟩ := h
 obtain ⟨h1, h2⟩ := zof_enc hk hu.small
 unfold IsZ
 rw [h1, h2]
 exact ⟨u, e, hu⟩
theorem IsZ.ok (x : Int) : okI (decide (x < 0)) (limbs x.natAbs) = true := by
 unfold okI
 rw [good_limbs, Bool.true_and]
 by_cases h : x < 0
 · have : (limbs x.natAbs).length ≠ 0 := fun e => by
    have := limbs_eq_nil.1 (List.length_eq_zero_iff.1 e)
    omega
   simp [h, this]
 · simp [h]
theorem wcheck_any {l : List Nat} (ha : IsI w Z a s l) :
  Calls Tryz.prog 122 #[a] w fun e w' => e = .returned (.int .i64 (errC s l)) ∧ Below w.heap.size w w' := by
 obtain ⟨_, rfl, A, c, rfl, hu⟩ := ha
 have hlen := hu.len
 have hb0 : Below w.heap.size w (w.alloc (.cells #[.bool s, .slice A l.length c] 25)) := (Below.refl _ w).alloc (Nat.le_refl _) _
 obtain ⟨q0, q1, _, _, _⟩ := Box.new w (.bool s) (.slice A l.length c) 25
 have hu0 := hu.below hb0
 cases hg : good l with
 | false =>
   have hc := check_bad hu0 hg
   have e1 : errC s l = 8 := by simp [errC, okI, hg]
   rw [e1]
   obtain ⟨Hc, Hb0⟩ := hid2 hc hb0
   clear hc hu hu0 hg e1 hb0
   go_enter Tryz.func122, Tryz.ntmps122
   go_wp2_with fail
   refine Hc.out.mono ?_
   rintro e w1 ⟨rfl, rfl⟩
   go_wp2
   go_ret
   exact ⟨rfl, Hb0.out⟩
 | true =>
   have hc := check_good hu0 hg
   obtain ⟨Hc, Hb0⟩ := hid2 hc hb0
   cases s with
   | false =>
     have e1 : errC false l = 0 := by simp [errC, okI, hg]
     rw [e1]
     clear hc hu hu0 hg e1 hb0
     go_enter Tryz.func122, Tryz.ntmps122
     go_wp2_with fail
     refine Hc.out.mono ?_
     rintro e w1 ⟨rfl, rfl⟩
     go_wp2
     go_ret
     exact ⟨rfl, Hb0.out⟩
   | true =>
     by_cases h0 : l.length = 0
     · have e1 : errC true l = 8 := by simp [errC, okI, h0]
       rw [e1]
       rw [h0] at Hc Hb0 q0 q1 ⊢
       clear hc hu hu0 hg e1 hb0
       go_enter Tryz.func122, Tryz.ntmps122
       go_wp2_with fail
       refine Hc.out.mono ?_
       rintro e w1 ⟨rfl, rfl⟩
       go_wp2
       go_ret
       exact ⟨rfl, Hb0.out⟩
     · have e1 : errC true l = 0 := by simp [errC, okI, hg, h0]
       rw [e1]
       have hd : ((l.length : Int) == 0) = false := beq_eq_false_iff_ne.2 (by omega)
       clear hc hu hu0 hg e1 hb0
       go_enter Tryz.func122, Tryz.ntmps122
       go_wp2_with fail
       refine Hc.out.mono ?_
       rintro e w1 ⟨rfl, rfl⟩
       go_wp2
       go_ret
       exact ⟨rfl, Hb0.out⟩
def GivenI (w : World) (g : Nat) (ps : List (Bool × List Nat)) : Prop :=
 ∀ j (h : j < ps.length), ∃ u, w.cell? ⟨g, j * 2, none⟩ = some (.bool ps[j].1) ∧ w.cell? ⟨g, j * 2 + 1, none⟩ = some u ∧ IsU w old u ps[j].2
theorem GivenI.below {ps : List (Bool × List Nat)} (h : GivenI w g ps) (hb : Below w.heap.size w w') : GivenI w' g ps := fun j hj => by
 obtain ⟨u, h0, h1, h2⟩ := h j hj
 exact ⟨u, keepC hb h0, keepC hb h1, h2.below hb⟩
def errCs (ps : List (Bool × List Nat)) : Int := if ps.all (fun p => okI p.1 p.2) = true then 0 else 8
theorem wchecked_any {n : Nat} {ps : List (Bool × List Nat)} (h : GivenI w g ps) (hn : n = ps.length) (hl : ps.length ≤ 1000) :
  Calls Tryz.prog 123 #[.slice (some ⟨g, 0, none⟩) n c] w fun e w' => e = .returned (.int .i64 (errCs ps)) ∧ Below w.heap.size w w' := by
 subst hn
 go_enter Tryz.func123, Tryz.ntmps123
 go_wp2
 go_loopw [8] (fun i wr => ∃ k : Nat, k ≤ ps.length ∧ i = .int .i64 k ∧ Below w.heap.size w wr ∧ Hid (∀ j (hj : j < ps.length), j < k → okI ps[j].1 ps[j].2 = true)) (fun i _ => ps.length - (intOf i).toNat)
 case atStart => exact ⟨0, Nat.zero_le _, rfl, Below.refl _ _, fun j hj h => absurd h (by omega)⟩
 case round =>
  obtain ⟨k, hk, rfl, hbel, hz⟩ := hrel
  by_cases hlt : k < ps.length
  · obtain ⟨u, h0, h1, h2⟩ := (h.below hbel) k hlt
    obtain ⟨A, c', rfl, hu⟩ := h2
    have hI : IsI wr old (.agg #[.bool ps[k].1, .slice A ps[k].2.length c']) ps[k].1 ps[k].2 := ⟨_, rfl, A, c', rfl, hu⟩
    have hxI := hI.below ((Below.refl _ wr).alloc (Nat.le_refl _) (.cells #[.bool ps[k].1, .slice A ps[k].2.length c'] 25))
    have hck := wcheck_any hxI
    have hb1 : Below w.heap.size w (wr.alloc (.cells #[.bool ps[k].1, .slice A ps[k].2.length c'] 25)) := hbel.alloc hbel.size _
    have hok : okI ps[k].1 ps[k].2 = true ∨ okI ps[k].1 ps[k].2 = false := by cases okI ps[k].1 ps[k].2 <;> simp
    have Hall : Hid (okI ps[k].1 ps[k].2 = true → ∀ j (hj : j < ps.length), j < k + 1 → okI ps[j].1 ps[j].2 = true) := fun hx j hj hjk => by
     rcases Nat.lt_or_ge j k with h1 | h1
     · exact hz.out j hj h1
     · obtain rfl : j = k := by omega
       exact hx
    have Hnone : Hid (okI ps[k].1 ps[k].2 = false → errCs ps = 8) := fun hx => by
     unfold errCs
     rw [if_neg]
     intro hall
     have := List.all_eq_true.1 hall ps[k] (List.getElem_mem hlt)
     rw [this] at hx
     cases hx
    clear hI hxI hu hz
    generalize ps[k].1 = s at *
    generalize ps[k].2 = l at *
    rcases hok with hok | hok
    · have e1 : errC s l = 0 := by simp [errC, hok]
      rw [e1] at hck
      obtain ⟨Hck, Hok⟩ := hid2 hck hok
      clear hck hok e1
      go_wp2_with fail
      refine Hck.out.mono ?_
      rintro e w1 ⟨rfl, hb2⟩
      have hb3 := from_ hb1 hb2
      go_wp2
      go_roundw
      case rel => exact ⟨k + 1, by omega, by go_num, hb3, hid (Hall.out Hok.out)⟩
      case measure => simp [intOf]; omega
    · have e1 : errC s l = 8 := by simp [errC, hok]
      rw [e1] at hck
      obtain ⟨Hck, Hok⟩ := hid2 hck hok
      clear hck hok e1
      go_wp2_with fail
      refine Hck.out.mono ?_
      rintro e w1 ⟨rfl, hb2⟩
      have hb3 := from_ hb1 hb2
      go_wp2
      go_ret
      rw [Hnone.out Hok.out]
      exact ⟨rfl, hb3⟩
  · obtain rfl : k = ps.length := by omega
    have he : errCs ps = 0 := by
     unfold errCs
     rw [if_pos]
     rw [List.all_eq_true]
     intro p hp
     obtain ⟨j, hj, rfl⟩ := List.getElem_of_mem hp
     exact hz.out j hj hj
    have He := hid he
    clear he
    go_wp2
    go_ret
    rw [He.out]
    exact ⟨rfl, hbel⟩
structure RowK (k : Nat) (w : World) (A : Option Addr) (c n : Nat) (x : Nat → Nat → Value) : Prop where
 cap : n ≤ c
 max : c ≤ 9223372036854775807
 row : 0 < n → ∃ b o, A = some ⟨b, o, none⟩ ∧ b < w.heap.size ∧ ∀ j, j < n → ∀ i, i < k → w.cell? ⟨b, o + j * k + i, none⟩ = some (x j i)
theorem RowK.nil (k : Nat) (w : World) (x : Nat → Nat → Value) : RowK k w none 0 0 x := ⟨by omega, by omega, fun h => absurd h (by omega)⟩
theorem RowK.below {k : Nat} {n : Nat} {x : Nat → Nat → Value} (h : RowK k w A c n x) (hb : Below w.heap.size w w') : RowK k w' A c n x := by
 refine ⟨h.cap, h.max, fun h0 => ?_⟩
 obtain ⟨b, o, e, h2, h4⟩ := h.row h0
 exact ⟨b, o, e, Nat.lt_of_lt_of_le h2 hb.size, fun j hj i hi => keepC hb (h4 j hj i hi)⟩
theorem RowK.len {k : Nat} {n : Nat} {x : Nat → Nat → Value} (h : RowK k w A c n x) : n ≤ 9223372036854775807 := Nat.le_trans h.cap h.max
def Goes (F : Nat) : Prop := ∀ args w, Sem.run Tryz.prog (callFunc F args) w = .ok (.enter F args) w
theorem goes_of {fn : Func} (h : Tryz.prog.funcs[F]? = some fn) (hn : (fn.name == "runtime.NumGoroutine") = false) (hb : fn.body.isNone = false) : Goes F := fun args w => by
 have h1 : fn.name ≠ "runtime.NumGoroutine" := by simpa using hn
 have h2 : ¬ fn.body = none := fun e => by rw [e] at hb; cases hb
 simp [callFunc, h, h1, h2, Sem.run]
theorem any_lt {f : Nat → Bool} {n : Nat} : (List.range n).any f = true ↔ ∃ j, j < n ∧ f j = true := by
 simp [List.any_eq_true]
theorem RowK.at1 {n : Nat} {x : Nat → Nat → Value} (h : RowK 1 w A c n x) (hj : j < n) :
  ∃ b o, A = some ⟨b, o, none⟩ ∧ b < w.heap.size ∧ w.cell? ⟨b, o + j, none⟩ = some (x j 0) := by
 obtain ⟨b, o, e, h2, h4⟩ := h.row (by omega)
 exact ⟨b, o, e, h2, by simpa using h4 j hj 0 (by omega)⟩
theorem RowK.at5 {n : Nat} {x : Nat → Nat → Value} (h : RowK 5 w A c n x) (hj : j < n) :
  ∃ b o, A = some ⟨b, o, none⟩ ∧ b < w.heap.size ∧ w.cell? ⟨b, o + j * 5, none⟩ = some (x j 0) ∧ w.cell? ⟨b, o + j * 5 + 1, none⟩ = some (x j 1) ∧ w.cell? ⟨b, o + j * 5 + 2, none⟩ = some (x j 2) ∧ w.cell? ⟨b, o + j * 5 + 3, none⟩ = some (x j 3) ∧ w.cell? ⟨b, o + j * 5 + 4, none⟩ = some (x j 4) := by
 obtain ⟨b, o, e, h2, h4⟩ := h.row (by omega)
 exact ⟨b, o, e, h2, by simpa using h4 j hj 0 (by omega), by simpa using h4 j hj 1 (by omega), by simpa using h4 j hj 2 (by omega), by simpa using h4 j hj 3 (by omega), by simpa using h4 j hj 4 (by omega)⟩
theorem RowK.at6 {n : Nat} {x : Nat → Nat → Value} (h : RowK 6 w A c n x) (hj : j < n) :
  ∃ b o, A = some ⟨b, o, none⟩ ∧ b < w.heap.size ∧ w.cell? ⟨b, o + j * 6, none⟩ = some (x j 0) ∧ w.cell? ⟨b, o + j * 6 + 1, none⟩ = some (x j 1) ∧ w.cell? ⟨b, o + j * 6 + 2, none⟩ = some (x j 2) ∧ w.cell? ⟨b, o + j * 6 + 3, none⟩ = some (x j 3) ∧ w.cell? ⟨b, o + j * 6 + 4, none⟩ = some (x j 4) ∧ w.cell? ⟨b, o + j * 6 + 5, none⟩ = some (x j 5) := by
 obtain ⟨b, o, e, h2, h4⟩ := h.row (by omega)
 exact ⟨b, o, e, h2, by simpa using h4 j hj 0 (by omega), by simpa using h4 j hj 1 (by omega), by simpa using h4 j hj 2 (by omega), by simpa using h4 j hj 3 (by omega), by simpa using h4 j hj 4 (by omega), by simpa using h4 j hj 5 (by omega)⟩
theorem RowK.at7 {n : Nat} {x : Nat → Nat → Value} (h : RowK 7 w A c n x) (hj : j < n) :
  ∃ b o, A = some ⟨b, o, none⟩ ∧ b < w.heap.size ∧ w.cell? ⟨b, o + j * 7, none⟩ = some (x j 0) ∧ w.cell? ⟨b, o + j * 7 + 1, none⟩ = some (x j 1) ∧ w.cell? ⟨b, o + j * 7 + 2, none⟩ = some (x j 2) ∧ w.cell? ⟨b, o + j * 7 + 3, none⟩ = some (x j 3) ∧ w.cell? ⟨b, o + j * 7 + 4, none⟩ = some (x j 4) ∧ w.cell? ⟨b, o + j * 7 + 5, none⟩ = some (x j 5) ∧ w.cell? ⟨b, o + j * 7 + 6, none⟩ = some (x j 6) := by
 obtain ⟨b, o, e, h2, h4⟩ := h.row (by omega)
 exact ⟨b, o, e, h2, by simpa using h4 j hj 0 (by omega), by simpa using h4 j hj 1 (by omega), by simpa using h4 j hj 2 (by omega), by simpa using h4 j hj 3 (by omega), by simpa using h4 j hj 4 (by omega), by simpa using h4 j hj 5 (by omega), by simpa using h4 j hj 6 (by omega)⟩
theorem sindex_int {n : Nat} {x : Nat → Nat → Value} {caps : Array Value} {f : Nat → Bool} (hF : Goes F) (ha : RowK 1 w A c n x)
  (hf : ∀ j, j < n → ∀ W, Below w.heap.size w W → Calls Tryz.prog F (#[x j 0] ++ caps) W fun e w' => e = .returned (.bool (f j)) ∧ Below W.heap.size W w') :
  Calls Tryz.prog 48 #[.slice A n c, .func (.func F) #[] caps] w fun e w' => (∃ r, e = .returned (.int .i64 r) ∧ decide (0 ≤ r) = (List.range n).any f) ∧ Below w.heap.size w w' := by
 have hlen := ha.len
 obtain ⟨Hf, Ha⟩ := hid2 hf ha
 clear hf ha
 go_enter Tryz.func48, Tryz.ntmps48
 go_wp2
 go_loopw [8] (fun i wr => ∃ k : Nat, k ≤ n ∧ i = .int .i64 k ∧ Below w.heap.size w wr ∧ Hid (∀ j, j < k → f j = false)) (fun i _ => n - (intOf i).toNat)
 case atStart => exact ⟨0, Nat.zero_le _, rfl, Below.refl _ _, fun j h => absurd h (by omega)⟩
 case round =>
  obtain ⟨k, hk, rfl, hbel, hz⟩ := hrel
  by_cases hlt : k < n
  · obtain ⟨b, o, rfl, hbb, c0⟩ := (Ha.out.below hbel).at1 hlt
    have hck := Hf.out k hlt wr hbel
    have Hall : Hid (f k = false → ∀ j, j < k + 1 → f j = false) := fun hx j hjk => by
     rcases Nat.lt_or_ge j k with h1 | h1
     · exact hz.out j h1
     · obtain rfl : j = k := by omega
       exact hx
    have Hsome : Hid (f k = true → (List.range n).any f = true) := fun hx => any_lt.2 ⟨k, hlt, hx⟩
    clear hz
    generalize x k 0 = v0 at *
    have hok : f k = true ∨ f k = false := by cases f k <;> simp
    generalize f k = R at *
    rcases hok with rfl | rfl
    all_goals
     have Hck := hid hck
     clear hck
     go_wp2_with fail
     rw [hF]
     refine Hck.out.mono ?_
     rintro e w1 ⟨rfl, hb2⟩
     have hb3 := from_ hbel hb2
     go_wp2
    · go_ret
      exact ⟨⟨_, rfl, by rw [Hsome.out (by first | rfl | trivial)]; exact decide_eq_true (by omega)⟩, hb3⟩
    · go_roundw
      case rel => exact ⟨k + 1, by omega, by go_num, hb3, hid (Hall.out (by first | rfl | trivial))⟩
      case measure => simp [intOf]; omega
  · obtain rfl : k = n := by omega
    have he : (List.range k).any f = false := by
     cases hall : (List.range k).any f
     · rfl
     · obtain ⟨j, hj, e⟩ := any_lt.1 hall
       rw [hz.out j hj] at e
       cases e
    have He := hid he
    clear he hz
    go_wp2
    go_ret
    exact ⟨⟨_, rfl, by rw [He.out]; rfl⟩, hbel⟩
theorem scontains_int {n : Nat} {x : Nat → Nat → Value} {caps : Array Value} {f : Nat → Bool} (hF : Goes F) (ha : RowK 1 w A c n x)
  (hf : ∀ j, j < n → ∀ W, Below w.heap.size w W → Calls Tryz.prog F (#[x j 0] ++ caps) W fun e w' => e = .returned (.bool (f j)) ∧ Below W.heap.size W w') :
  Calls Tryz.prog 26 #[.slice A n c, .func (.func F) #[] caps] w fun e w' => e = .returned (.bool ((List.range n).any f)) ∧ Below w.heap.size w w' := by
 have Hix := hid (sindex_int hF ha hf)
 clear hf ha
 generalize (List.range n).any f = R at *
 go_enter Tryz.func26, Tryz.ntmps26
 go_wp2_with fail
 refine Hix.out.mono ?_
 rintro e w1 ⟨⟨r, rfl, hr⟩, hb1⟩
 go_wp2
 go_ret
 exact ⟨rfl, hb1⟩
theorem sindex_edge {n : Nat} {x : Nat → Nat → Value} {caps : Array Value} {f : Nat → Bool} (hF : Goes F) (ha : RowK 7 w A c n x)
  (hf : ∀ j, j < n → ∀ W, Below w.heap.size w W → Calls Tryz.prog F (#[.agg #[x j 0, x j 1, x j 2, x j 3, x j 4, x j 5, x j 6]] ++ caps) W fun e w' => e = .returned (.bool (f j)) ∧ Below W.heap.size W w') :
  Calls Tryz.prog 49 #[.slice A n c, .func (.func F) #[] caps] w fun e w' => (∃ r, e = .returned (.int .i64 r) ∧ decide (0 ≤ r) = (List.range n).any f) ∧ Below w.heap.size w w' := by
 have hlen := ha.len
 obtain ⟨Hf, Ha⟩ := hid2 hf ha
 clear hf ha
 go_enter Tryz.func49, Tryz.ntmps49
 go_wp2
 go_loopw [8] (fun i wr => ∃ k : Nat, k ≤ n ∧ i = .int .i64 k ∧ Below w.heap.size w wr ∧ Hid (∀ j, j < k → f j = false)) (fun i _ => n - (intOf i).toNat)
 case atStart => exact ⟨0, Nat.zero_le _, rfl, Below.refl _ _, fun j h => absurd h (by omega)⟩
 case round =>
  obtain ⟨k, hk, rfl, hbel, hz⟩ := hrel
  by_cases hlt : k < n
  · obtain ⟨b, o, rfl, hbb, c0, c1, c2, c3, c4, c5, c6⟩ := (Ha.out.below hbel).at7 hlt
    have hck := Hf.out k hlt wr hbel
    have Hall : Hid (f k = false → ∀ j, j < k + 1 → f j = false) := fun hx j hjk => by
     rcases Nat.lt_or_ge j k with h1 | h1
     · exact hz.out j h1
     · obtain rfl : j = k := by omega
       exact hx
    have Hsome : Hid (f k = true → (List.range n).any f = true) := fun hx => any_lt.2 ⟨k, hlt, hx⟩
    clear hz
    generalize x k 0 = v0 at *; generalize x k 1 = v1 at *; generalize x k 2 = v2 at *; generalize x k 3 = v3 at *; generalize x k 4 = v4 at *; generalize x k 5 = v5 at *; generalize x k 6 = v6 at *
    have hok : f k = true ∨ f k = false := by cases f k <;> simp
    generalize f k = R at *
    rcases hok with rfl | rfl
    all_goals
     have Hck := hid hck
     clear hck
     go_wp2_with fail
     rw [hF]
     refine Hck.out.mono ?_
     rintro e w1 ⟨rfl, hb2⟩
     have hb3 := from_ hbel hb2
     go_wp2
    · go_ret
      exact ⟨⟨_, rfl, by rw [Hsome.out (by first | rfl | trivial)]; exact decide_eq_true (by omega)⟩, hb3⟩
    · go_roundw
      case rel => exact ⟨k + 1, by omega, by go_num, hb3, hid (Hall.out (by first | rfl | trivial))⟩
      case measure => simp [intOf]; omega
  · obtain rfl : k = n := by omega
    have he : (List.range k).any f = false := by
     cases hall : (List.range k).any f
     · rfl
     · obtain ⟨j, hj, e⟩ := any_lt.1 hall
       rw [hz.out j hj] at e
       cases e
    have He := hid he
    clear he hz
    go_wp2
    go_ret
    exact ⟨⟨_, rfl, by rw [He.out]; rfl⟩, hbel⟩
theorem scontains_edge {n : Nat} {x : Nat → Nat → Value} {caps : Array Value} {f : Nat → Bool} (hF : Goes F) (ha : RowK 7 w A c n x)
  (hf : ∀ j, j < n → ∀ W, Below w.heap.size w W → Calls Tryz.prog F (#[.agg #[x j 0, x j 1, x j 2, x j 3, x j 4, x j 5, x j 6]] ++ caps) W fun e w' => e = .returned (.bool (f j)) ∧ Below W.heap.size W w') :
  Calls Tryz.prog 28 #[.slice A n c, .func (.func F) #[] caps] w fun e w' => e = .returned (.bool ((List.range n).any f)) ∧ Below w.heap.size w w' := by
 have Hix := hid (sindex_edge hF ha hf)
 clear hf ha
 generalize (List.range n).any f = R at *
 go_enter Tryz.func28, Tryz.ntmps28
 go_wp2_with fail
 refine Hix.out.mono ?_
 rintro e w1 ⟨⟨r, rfl, hr⟩, hb1⟩
 go_wp2
 go_ret
 exact ⟨rfl, hb1⟩
theorem sindex_expr {n : Nat} {x : Nat → Nat → Value} {caps : Array Value} {f : Nat → Bool} (hF : Goes F) (ha : RowK 5 w A c n x)
  (hf : ∀ j, j < n → ∀ W, Below w.heap.size w W → Calls Tryz.prog F (#[.agg #[x j 0, x j 1, x j 2, x j 3, x j 4]] ++ caps) W fun e w' => e = .returned (.bool (f j)) ∧ Below W.heap.size W w') :
  Calls Tryz.prog 86 #[.slice A n c, .func (.func F) #[] caps] w fun e w' => (∃ r, e = .returned (.int .i64 r) ∧ decide (0 ≤ r) = (List.range n).any f) ∧ Below w.heap.size w w' := by
 have hlen := ha.len
 obtain ⟨Hf, Ha⟩ := hid2 hf ha
 clear hf ha
 go_enter Tryz.func86, Tryz.ntmps86
 go_wp2
 go_loopw [8] (fun i wr => ∃ k : Nat, k ≤ n ∧ i = .int .i64 k ∧ Below w.heap.size w wr ∧ Hid (∀ j, j < k → f j = false)) (fun i _ => n - (intOf i).toNat)
 case atStart => exact ⟨0, Nat.zero_le _, rfl, Below.refl _ _, fun j h => absurd h (by omega)⟩
 case round =>
  obtain ⟨k, hk, rfl, hbel, hz⟩ := hrel
  by_cases hlt : k < n
  · obtain ⟨b, o, rfl, hbb, c0, c1, c2, c3, c4⟩ := (Ha.out.below hbel).at5 hlt
    have hck := Hf.out k hlt wr hbel
    have Hall : Hid (f k = false → ∀ j, j < k + 1 → f j = false) := fun hx j hjk => by
     rcases Nat.lt_or_ge j k with h1 | h1
     · exact hz.out j h1
     · obtain rfl : j = k := by omega
       exact hx
    have Hsome : Hid (f k = true → (List.range n).any f = true) := fun hx => any_lt.2 ⟨k, hlt, hx⟩
    clear hz
    generalize x k 0 = v0 at *; generalize x k 1 = v1 at *; generalize x k 2 = v2 at *; generalize x k 3 = v3 at *; generalize x k 4 = v4 at *
    have hok : f k = true ∨ f k = false := by cases f k <;> simp
    generalize f k = R at *
    rcases hok with rfl | rfl
    all_goals
     have Hck := hid hck
     clear hck
     go_wp2_with fail
     rw [hF]
     refine Hck.out.mono ?_
     rintro e w1 ⟨rfl, hb2⟩
     have hb3 := from_ hbel hb2
     go_wp2
    · go_ret
      exact ⟨⟨_, rfl, by rw [Hsome.out (by first | rfl | trivial)]; exact decide_eq_true (by omega)⟩, hb3⟩
    · go_roundw
      case rel => exact ⟨k + 1, by omega, by go_num, hb3, hid (Hall.out (by first | rfl | trivial))⟩
      case measure => simp [intOf]; omega
  · obtain rfl : k = n := by omega
    have he : (List.range k).any f = false := by
     cases hall : (List.range k).any f
     · rfl
     · obtain ⟨j, hj, e⟩ := any_lt.1 hall
       rw [hz.out j hj] at e
       cases e
    have He := hid he
    clear he hz
    go_wp2
    go_ret
    exact ⟨⟨_, rfl, by rw [He.out]; rfl⟩, hbel⟩
theorem scontains_expr {n : Nat} {x : Nat → Nat → Value} {caps : Array Value} {f : Nat → Bool} (hF : Goes F) (ha : RowK 5 w A c n x)
  (hf : ∀ j, j < n → ∀ W, Below w.heap.size w W → Calls Tryz.prog F (#[.agg #[x j 0, x j 1, x j 2, x j 3, x j 4]] ++ caps) W fun e w' => e = .returned (.bool (f j)) ∧ Below W.heap.size W w') :
  Calls Tryz.prog 51 #[.slice A n c, .func (.func F) #[] caps] w fun e w' => e = .returned (.bool ((List.range n).any f)) ∧ Below w.heap.size w w' := by
 have Hix := hid (sindex_expr hF ha hf)
 clear hf ha
 generalize (List.range n).any f = R at *
 go_enter Tryz.func51, Tryz.ntmps51
 go_wp2_with fail
 refine Hix.out.mono ?_
 rintro e w1 ⟨⟨r, rfl, hr⟩, hb1⟩
 go_wp2
 go_ret
 exact ⟨rfl, hb1⟩
theorem sindex_itv {n : Nat} {x : Nat → Nat → Value} {caps : Array Value} {f : Nat → Bool} (hF : Goes F) (ha : RowK 6 w A c n x)
  (hf : ∀ j, j < n → ∀ W, Below w.heap.size w W → Calls Tryz.prog F (#[.agg #[x j 0, x j 1, x j 2, x j 3, x j 4, x j 5]] ++ caps) W fun e w' => e = .returned (.bool (f j)) ∧ Below W.heap.size W w') :
  Calls Tryz.prog 56 #[.slice A n c, .func (.func F) #[] caps] w fun e w' => (∃ r, e = .returned (.int .i64 r) ∧ decide (0 ≤ r) = (List.range n).any f) ∧ Below w.heap.size w w' := by
 have hlen := ha.len
 obtain ⟨Hf, Ha⟩ := hid2 hf ha
 clear hf ha
 go_enter Tryz.func56, Tryz.ntmps56
 go_wp2
 go_loopw [8] (fun i wr => ∃ k : Nat, k ≤ n ∧ i = .int .i64 k ∧ Below w.heap.size w wr ∧ Hid (∀ j, j < k → f j = false)) (fun i _ => n - (intOf i).toNat)
 case atStart => exact ⟨0, Nat.zero_le _, rfl, Below.refl _ _, fun j h => absurd h (by omega)⟩
 case round =>
  obtain ⟨k, hk, rfl, hbel, hz⟩ := hrel
  by_cases hlt : k < n
  · obtain ⟨b, o, rfl, hbb, c0, c1, c2, c3, c4, c5⟩ := (Ha.out.below hbel).at6 hlt
    have hck := Hf.out k hlt wr hbel
    have Hall : Hid (f k = false → ∀ j, j < k + 1 → f j = false) := fun hx j hjk => by
     rcases Nat.lt_or_ge j k with h1 | h1
     · exact hz.out j h1
     · obtain rfl : j = k := by omega
       exact hx
    have Hsome : Hid (f k = true → (List.range n).any f = true) := fun hx => any_lt.2 ⟨k, hlt, hx⟩
    clear hz
    generalize x k 0 = v0 at *; generalize x k 1 = v1 at *; generalize x k 2 = v2 at *; generalize x k 3 = v3 at *; generalize x k 4 = v4 at *; generalize x k 5 = v5 at *
    have hok : f k = true ∨ f k = false := by cases f k <;> simp
    generalize f k = R at *
    rcases hok with rfl | rfl
    all_goals
     have Hck := hid hck
     clear hck
     go_wp2_with fail
     rw [hF]
     refine Hck.out.mono ?_
     rintro e w1 ⟨rfl, hb2⟩
     have hb3 := from_ hbel hb2
     go_wp2
    · go_ret
      exact ⟨⟨_, rfl, by rw [Hsome.out (by first | rfl | trivial)]; exact decide_eq_true (by omega)⟩, hb3⟩
    · go_roundw
      case rel => exact ⟨k + 1, by omega, by go_num, hb3, hid (Hall.out (by first | rfl | trivial))⟩
      case measure => simp [intOf]; omega
  · obtain rfl : k = n := by omega
    have he : (List.range k).any f = false := by
     cases hall : (List.range k).any f
     · rfl
     · obtain ⟨j, hj, e⟩ := any_lt.1 hall
       rw [hz.out j hj] at e
       cases e
    have He := hid he
    clear he hz
    go_wp2
    go_ret
    exact ⟨⟨_, rfl, by rw [He.out]; rfl⟩, hbel⟩
theorem scontains_itv {n : Nat} {x : Nat → Nat → Value} {caps : Array Value} {f : Nat → Bool} (hF : Goes F) (ha : RowK 6 w A c n x)
  (hf : ∀ j, j < n → ∀ W, Below w.heap.size w W → Calls Tryz.prog F (#[.agg #[x j 0, x j 1, x j 2, x j 3, x j 4, x j 5]] ++ caps) W fun e w' => e = .returned (.bool (f j)) ∧ Below W.heap.size W w') :
  Calls Tryz.prog 33 #[.slice A n c, .func (.func F) #[] caps] w fun e w' => e = .returned (.bool ((List.range n).any f)) ∧ Below w.heap.size w w' := by
 have Hix := hid (sindex_itv hF ha hf)
 clear hf ha
 generalize (List.range n).any f = R at *
 go_enter Tryz.func33, Tryz.ntmps33
 go_wp2_with fail
 refine Hix.out.mono ?_
 rintro e w1 ⟨⟨r, rfl, hr⟩, hb1⟩
 go_wp2
 go_ret
 exact ⟨rfl, hb1⟩
theorem size_alloc (w : World) (o : Obj) : (w.alloc o).heap.size = w.heap.size + 1 := by simp
theorem boxes3 (w : World) (a0 a1 b0 b1 r0 r1 : Value) (t : TypeId) :
  Box (((w.alloc (.cells #[a0, a1] t)).alloc (.cells #[b0, b1] t)).alloc (.cells #[r0, r1] t)) w.heap.size a0 a1 ∧
  Box (((w.alloc (.cells #[a0, a1] t)).alloc (.cells #[b0, b1] t)).alloc (.cells #[r0, r1] t)) (w.heap.size + 1) b0 b1 ∧
  Box (((w.alloc (.cells #[a0, a1] t)).alloc (.cells #[b0, b1] t)).alloc (.cells #[r0, r1] t)) (w.heap.size + 2) r0 r1 ∧
  Below w.heap.size w (((w.alloc (.cells #[a0, a1] t)).alloc (.cells #[b0, b1] t)).alloc (.cells #[r0, r1] t)) := by
 have h1 := ((Box.new w a0 a1 t).alloc (.cells #[b0, b1] t)).alloc (.cells #[r0, r1] t)
 have h2 := (Box.new (w.alloc (.cells #[a0, a1] t)) b0 b1 t).alloc (.cells #[r0, r1] t)
 have h3 := Box.new ((w.alloc (.cells #[a0, a1] t)).alloc (.cells #[b0, b1] t)) r0 r1 t
 rw [size_alloc] at h2
 rw [size_alloc, size_alloc] at h3
 refine ⟨h1, h2, h3, ?_⟩
 exact (((Below.refl _ w).alloc (Nat.le_refl _) _).alloc (by rw [size_alloc]; omega) _).alloc (by rw [size_alloc, size_alloc]; omega) _
theorem wsum_good {y : Int} (ha : IsZ w Z a x) (hb : IsZ w Y b y) (hl : (limbs x.natAbs).length ≤ 800000000000) (hl2 : (limbs y.natAbs).length ≤ 800000000000) :
  Calls Tryz.prog 124 #[a, b] w fun e w' => ∃ v, e = .returned v ∧ IsZ w' (new w.heap.size) v (x + y) ∧ Below w.heap.size w w' := by
 obtain ⟨_, rfl, A, ca, rfl, hu⟩ := ha
 obtain ⟨_, rfl, B, cb, rfl, hv⟩ := hb
 obtain ⟨m, hm⟩ : ∃ m, m = x.natAbs := ⟨_, rfl⟩
 obtain ⟨n, hn⟩ : ∃ n, n = y.natAbs := ⟨_, rfl⟩
 rw [← hm] at hu hl ⊢
 rw [← hn] at hv hl2 ⊢
 have ua : IsN w Z (.slice A (limbs m).length ca) m := ⟨A, ca, rfl, hu⟩
 have ub : IsN w Y (.slice B (limbs n).length cb) n := ⟨B, cb, rfl, hv⟩
 clear hu hv
 by_cases hs : decide (x < 0) = decide (y < 0)
 · rw [← hs]
   obtain ⟨s, hsx⟩ : ∃ s, s = decide (x < 0) := ⟨_, rfl⟩
   have hsum : (s && decide (0 < (limbs (m + n)).length)) = decide (x + y < 0) ∧ (x + y).natAbs = m + n := by
    by_cases hx : x < 0
    · have hy : y < 0 := by rw [decide_eq_true hx] at hs; exact of_decide_eq_true hs.symm
      have h1 : 0 < (limbs (m + n)).length := len_pos.2 (by omega)
      exact ⟨by rw [hsx, decide_eq_true hx, decide_eq_true h1, decide_eq_true (show x + y < 0 by omega)]; rfl, by omega⟩
    · have hy : ¬ y < 0 := by rw [decide_eq_false hx] at hs; exact of_decide_eq_false hs.symm
      exact ⟨by rw [hsx, decide_eq_false hx, decide_eq_false (show ¬ x + y < 0 by omega)]; rfl, by omega⟩
   rw [← hsx]
   obtain ⟨bA, bB, bR, hB0⟩ := boxes3 w (.bool s) (.slice A (limbs m).length ca) (.bool s) (.slice B (limbs n).length cb) (.bool false) (.slice none 0 0) 25
   unfold IsZ
   rw [hsum.2]
   have Hs := hid hsum.1
   clear hs hsx hsum hm hn
   go_enter Tryz.func124, Tryz.ntmps124
   obtain ⟨a0, a1, _, _, _⟩ := bA
   obtain ⟨b0, b1, _, _, _⟩ := bB
   go_wp2_with fail
   refine (add_good (ua.below hB0) (ub.below hB0) (by omega) (by omega)).mono ?_
   rintro e w1 ⟨v, rfl, ⟨Av, cv, rfl, hv'⟩, hb1⟩
   have hv : IsU w1 _ (.slice Av (limbs (m + n)).length cv) (limbs (m + n)) := ⟨Av, cv, rfl, hv'⟩
   have a0 := keepC hb1 a0
   have bR1 := bR.below hb1
   have hB1 := from_ hB0 hb1
   clear hv' b0 b1 a1 bR
   go_wp2_with fail
   refine (made_at hv Hs.out).mono ?_
   rintro e w2 ⟨rfl, hb2⟩
   have bR2 := bR1.below hb2
   have hP := bR2.put (from_ hB1 hb2) (by omega) (.bool (decide (x + y < 0))) (.slice Av (limbs (m + n)).length cv)
   have hu2 := hP.keep (by simp) (hv.below hb2)
   obtain ⟨Hu, HP⟩ := hid2 hu2 hP
   obtain ⟨q0, q1, f0, f1, _⟩ := bR2
   clear hv hu2 hP bR1 a0 hB0 hB1
   go_wp2
   refine bodyPost_ret (res_int rfl _ (w.heap.size + 2) rfl HP.out.c0 HP.out.c1) rfl ?_
   exact ⟨_, rfl, ⟨_, rfl, Hu.out⟩, HP.out.bel⟩
 · obtain ⟨s, hsx⟩ : ∃ s, s = decide (x < 0) := ⟨_, rfl⟩
   obtain ⟨t, hty⟩ : ∃ t, t = decide (y < 0) := ⟨_, rfl⟩
   rw [← hsx, ← hty] at hs ⊢
   rcases Nat.lt_or_ge m n with hmn | hmn
   · have hsum : (t && decide (0 < (limbs (n - m)).length)) = decide (x + y < 0) ∧ (x + y).natAbs = n - m := by
      have h1 : 0 < (limbs (n - m)).length := len_pos.2 (by omega)
      rw [decide_eq_true h1, Bool.and_true]
      by_cases hx : x < 0
      · have hy : ¬ y < 0 := fun hy => hs (by rw [hsx, hty, decide_eq_true hx, decide_eq_true hy])
        exact ⟨by rw [hty, decide_eq_false hy, decide_eq_false (by omega)], by omega⟩
      · have hy : y < 0 := Decidable.byContradiction fun hy => hs (by rw [hsx, hty, decide_eq_false hx, decide_eq_false hy])
        exact ⟨by rw [hty, decide_eq_true hy, decide_eq_true (by omega)], by omega⟩
     unfold IsZ
     rw [hsum.2]
     have Hs := hid hsum.1
     have hk : (limbs (n - m)).length ≤ 900000000000 := Nat.le_trans (len_mono (Nat.sub_le _ _)) (by omega)
     clear hsx hty hsum hm hn
     rcases (show (s = true ∧ t = false) ∨ (s = false ∧ t = true) by cases s <;> cases t <;> simp_all) with ⟨rfl, rfl⟩ | ⟨rfl, rfl⟩
     all_goals
      clear hs
      have bx := fun (s t : Bool) => boxes3 w (.bool s) (.slice A (limbs m).length ca) (.bool t) (.slice B (limbs n).length cb) (.bool false) (.slice none 0 0) 25
      first
      | obtain ⟨bA, bB, bR, hB0⟩ := bx true false
        go_enter Tryz.func124, Tryz.ntmps124
        obtain ⟨a0, a1, _, _, _⟩ := bA
        obtain ⟨b0, b1, _, _, _⟩ := bB
        go_wp2_with fail
        refine (sub_less (ua.below hB0) (ub.below hB0) (by omega) (by omega) hmn).mono ?_
        rintro e w1 ⟨rfl, hb1⟩
        have a1 := keepC hb1 a1
        have b0 := keepC hb1 b0
        have b1 := keepC hb1 b1
        have bR1 := bR.below hb1
        have hB1 := from_ hB0 hb1
        clear a0 bR
        go_wp2_with fail
        refine (sub_good (ub.below hB1) (ua.below hB1) (by omega) (by omega) (by omega)).mono ?_
        rintro e w2 ⟨v, rfl, ⟨Av, cv, rfl, hv'⟩, hb2⟩
        have hv : IsU w2 _ (.slice Av (limbs (n - m)).length cv) (limbs (n - m)) := ⟨Av, cv, rfl, hv'⟩
        have b0 := keepC hb2 b0
        have bR2 := bR1.below hb2
        have hB2 := from_ hB1 hb2
        clear hv' b1 a1 bR1
        go_wp2_with fail
        refine (made_at hv Hs.out).mono ?_
        rintro e w3 ⟨rfl, hb3⟩
        have bR3 := bR2.below hb3
        have hP := bR3.put (from_ hB2 hb3) (by omega) (.bool (decide (x + y < 0))) (.slice Av (limbs (n - m)).length cv)
        have hu2 := hP.keep (by have := hb1.size; simp at this; omega) (hv.below hb3)
        obtain ⟨Hu, HP⟩ := hid2 hu2 hP
        obtain ⟨q0, q1, f0, f1, _⟩ := bR3
        clear hv hu2 hP bR2 hB0 hB1 hB2
        go_wp2
        refine bodyPost_ret (res_int rfl _ (w.heap.size + 2) rfl HP.out.c0 HP.out.c1) rfl ?_
        exact ⟨_, rfl, ⟨_, rfl, Hu.out⟩, HP.out.bel⟩
      | obtain ⟨bA, bB, bR, hB0⟩ := bx false true
        go_enter Tryz.func124, Tryz.ntmps124
        obtain ⟨a0, a1, _, _, _⟩ := bA
        obtain ⟨b0, b1, _, _, _⟩ := bB
        go_wp2_with fail
        refine (sub_less (ua.below hB0) (ub.below hB0) (by omega) (by omega) hmn).mono ?_
        rintro e w1 ⟨rfl, hb1⟩
        have a1 := keepC hb1 a1
        have b0 := keepC hb1 b0
        have b1 := keepC hb1 b1
        have bR1 := bR.below hb1
        have hB1 := from_ hB0 hb1
        clear a0 bR
        go_wp2_with fail
        refine (sub_good (ub.below hB1) (ua.below hB1) (by omega) (by omega) (by omega)).mono ?_
        rintro e w2 ⟨v, rfl, ⟨Av, cv, rfl, hv'⟩, hb2⟩
        have hv : IsU w2 _ (.slice Av (limbs (n - m)).length cv) (limbs (n - m)) := ⟨Av, cv, rfl, hv'⟩
        have b0 := keepC hb2 b0
        have bR2 := bR1.below hb2
        have hB2 := from_ hB1 hb2
        clear hv' b1 a1 bR1
        go_wp2_with fail
        refine (made_at hv Hs.out).mono ?_
        rintro e w3 ⟨rfl, hb3⟩
        have bR3 := bR2.below hb3
        have hP := bR3.put (from_ hB2 hb3) (by omega) (.bool (decide (x + y < 0))) (.slice Av (limbs (n - m)).length cv)
        have hu2 := hP.keep (by have := hb1.size; simp at this; omega) (hv.below hb3)
        obtain ⟨Hu, HP⟩ := hid2 hu2 hP
        obtain ⟨q0, q1, f0, f1, _⟩ := bR3
        clear hv hu2 hP bR2 hB0 hB1 hB2
        go_wp2
        refine bodyPost_ret (res_int rfl _ (w.heap.size + 2) rfl HP.out.c0 HP.out.c1) rfl ?_
        exact ⟨_, rfl, ⟨_, rfl, Hu.out⟩, HP.out.bel⟩
   · have hsum : (s && decide (0 < (limbs (m - n)).length)) = decide (x + y < 0) ∧ (x + y).natAbs = m - n := by
      by_cases hx : x < 0
      · have hy : ¬ y < 0 := fun hy => hs (by rw [hsx, hty, decide_eq_true hx, decide_eq_true hy])
        refine ⟨?_, by omega⟩
        rw [hsx, decide_eq_true hx, Bool.true_and]
        exact decide_eq_decide.2 (by rw [len_pos]; omega)
      · have hy : y < 0 := Decidable.byContradiction fun hy => hs (by rw [hsx, hty, decide_eq_false hx, decide_eq_false hy])
        exact ⟨by rw [hsx, decide_eq_false hx, decide_eq_false (show ¬ x + y < 0 by omega)]; rfl, by omega⟩
     unfold IsZ
     rw [hsum.2]
     have Hs := hid hsum.1
     clear hsx hty hsum hm hn
     rcases (show (s = true ∧ t = false) ∨ (s = false ∧ t = true) by cases s <;> cases t <;> simp_all) with ⟨rfl, rfl⟩ | ⟨rfl, rfl⟩
     all_goals
      clear hs
      have bx := fun (s t : Bool) => boxes3 w (.bool s) (.slice A (limbs m).length ca) (.bool t) (.slice B (limbs n).length cb) (.bool false) (.slice none 0 0) 25
      first
      | obtain ⟨bA, bB, bR, hB0⟩ := bx true false
        go_enter Tryz.func124, Tryz.ntmps124
        obtain ⟨a0, a1, _, _, _⟩ := bA
        obtain ⟨b0, b1, _, _, _⟩ := bB
        go_wp2_with fail
        refine (sub_good (ua.below hB0) (ub.below hB0) (by omega) (by omega) hmn).mono ?_
        rintro e w1 ⟨v, rfl, ⟨Av, cv, rfl, hv'⟩, hb1⟩
        have hv : IsU w1 _ (.slice Av (limbs (m - n)).length cv) (limbs (m - n)) := ⟨Av, cv, rfl, hv'⟩
        have a0 := keepC hb1 a0
        have bR1 := bR.below hb1
        have hB1 := from_ hB0 hb1
        clear hv' b0 b1 a1 bR
        go_wp2_with fail
        refine (made_at hv Hs.out).mono ?_
        rintro e w2 ⟨rfl, hb2⟩
        have bR2 := bR1.below hb2
        have hP := bR2.put (from_ hB1 hb2) (by omega) (.bool (decide (x + y < 0))) (.slice Av (limbs (m - n)).length cv)
        have hu2 := hP.keep (by simp) (hv.below hb2)
        obtain ⟨Hu, HP⟩ := hid2 hu2 hP
        obtain ⟨q0, q1, f0, f1, _⟩ := bR2
        clear hv hu2 hP bR1 a0 hB0 hB1
        go_wp2
        refine bodyPost_ret (res_int rfl _ (w.heap.size + 2) rfl HP.out.c0 HP.out.c1) rfl ?_
        exact ⟨_, rfl, ⟨_, rfl, Hu.out⟩, HP.out.bel⟩
      | obtain ⟨bA, bB, bR, hB0⟩ := bx false true
        go_enter Tryz.func124, Tryz.ntmps124
        obtain ⟨a0, a1, _, _, _⟩ := bA
        obtain ⟨b0, b1, _, _, _⟩ := bB
        go_wp2_with fail
        refine (sub_good (ua.below hB0) (ub.below hB0) (by omega) (by omega) hmn).mono ?_
        rintro e w1 ⟨v, rfl, ⟨Av, cv, rfl, hv'⟩, hb1⟩
        have hv : IsU w1 _ (.slice Av (limbs (m - n)).length cv) (limbs (m - n)) := ⟨Av, cv, rfl, hv'⟩
        have a0 := keepC hb1 a0
        have bR1 := bR.below hb1
        have hB1 := from_ hB0 hb1
        clear hv' b0 b1 a1 bR
        go_wp2_with fail
        refine (made_at hv Hs.out).mono ?_
        rintro e w2 ⟨rfl, hb2⟩
        have bR2 := bR1.below hb2
        have hP := bR2.put (from_ hB1 hb2) (by omega) (.bool (decide (x + y < 0))) (.slice Av (limbs (m - n)).length cv)
        have hu2 := hP.keep (by simp) (hv.below hb2)
        obtain ⟨Hu, HP⟩ := hid2 hu2 hP
        obtain ⟨q0, q1, f0, f1, _⟩ := bR2
        clear hv hu2 hP bR1 a0 hB0 hB1
        go_wp2
        refine bodyPost_ret (res_int rfl _ (w.heap.size + 2) rfl HP.out.c0 HP.out.c1) rfl ?_
        exact ⟨_, rfl, ⟨_, rfl, Hu.out⟩, HP.out.bel⟩
end Go.Proofs.YtcheajjjdbllfaaGreat
