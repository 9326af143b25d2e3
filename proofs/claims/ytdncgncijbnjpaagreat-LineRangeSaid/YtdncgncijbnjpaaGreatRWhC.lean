/- Whole numbers: sums. No conditions but bounds on lengths. -/
import Derived.Laws.ResultCell
import Derived.Test.YtdncgncijbnjpaaGreatRFrameB
import Derived.Test.YtdncgncijbnjpaaGreatRNatE
import Derived.Test.YtdncgncijbnjpaaGreatRNatD
set_option linter.unusedVariables false
set_option linter.unusedSimpArgs false
set_option maxRecDepth 100000
set_option maxHeartbeats 40000000
namespace Go.Proofs.YtdncgncijbnjpaaGreat
open Go.Lib (hid)
open Go.RowKit
variable {A : Option Addr} {F c g i j : Nat} {W w' w1 : World} {Z : Zone} {a b u v v0 v1 : Value} {s : Bool} {x : Int}
theorem loadVar_int {w : World} (h0 : w.cell? ⟨g, 0, none⟩ = some v0) (h1 : w.cell? ⟨g, 1, none⟩ = some v1) :
  (loadVar 35 ⟨g, 0, none⟩).run Tryz.prog w = .ok (.agg #[v0, v1]) w := by
 unfold loadVar
 go_simp
theorem res_int {fn : Func} {p : Tmp} (h : fn.results = #[.cell p 35]) (tmps : Array Value) {w : World} (g : Nat) (hp : tmps.getD p undef = .pointer (some ⟨g, 0, none⟩)) (h0 : w.cell? ⟨g, 0, none⟩ = some v0) (h1 : w.cell? ⟨g, 1, none⟩ = some v1) :
  (results fn tmps).run Tryz.prog w = .ok (.agg #[v0, v1]) w := by
 have B : tmps[p]?.getD undef = .pointer (some ⟨g, 0, none⟩) := by simpa using hp
 simp [results, h, B, asAddr, loadVar_int h0 h1]
theorem res_int2 {fn : Func} {p u : Tmp} (h : fn.results = #[.cell p 35, .tmp u]) (tmps : Array Value) {w : World} (g : Nat) (hp : tmps.getD p undef = .pointer (some ⟨g, 0, none⟩)) (h0 : w.cell? ⟨g, 0, none⟩ = some v0) (h1 : w.cell? ⟨g, 1, none⟩ = some v1) :
  (results fn tmps).run Tryz.prog w = .ok (.tuple #[.agg #[v0, v1], tmps.getD u undef]) w := by
 rw [results_cell_tmp h, hp]
 simp [asAddr, Result.andThen, loadVar_int h0 h1]
theorem keepC (hb : Below W.heap.size W w1) (h : W.cell? ⟨g, i, none⟩ = some v) : w1.cell? ⟨g, i, none⟩ = some v := (hb.cell (p := ⟨g, i, none⟩) (lt_of_cell h)).trans h
theorem keepF (hb : Below W.heap.size W w1) (hg : g < W.heap.size) (h : W.frozen? ⟨g, i, none⟩ = false) : w1.frozen? ⟨g, i, none⟩ = false := ((bcell hb).2 g i hg).trans h
def IsZ (w : World) (Z : Zone) (v : Value) (x : Int) : Prop := IsI w Z v (decide (x < 0)) (limbs x.natAbs)
theorem IsZ.below {w : World} (h : IsZ w Z v x) (hb : Below w.heap.size w w') : IsZ w' Z v x := IsI.below h hb
theorem made_any {w : World} {l : List Nat} (hu : IsU w Z u l) :
  Calls Tryz.prog 109 #[.bool s, u] w fun e w' => e = .returned (.agg #[.bool (s && decide (0 < l.length)), u]) ∧ Below w.heap.size w w' := by
 obtain ⟨A, c, rfl, hu⟩ := hu
 have D : ∀ x, Below w.heap.size w (w.alloc (.cells x 35)) := fun x => (Below.refl _ w).alloc (Nat.le_refl _) _
 have B := hid D
 clear hu D
 cases s
 · go_enter Tryz.func109, Tryz.ntmps109
   go_wp2
   refine bodyPost_ret (res_int rfl _ w.heap.size rfl (cell_newest rfl rfl) (cell_newest rfl rfl)) rfl ?_
   exact ⟨rfl, B.out _⟩
 · by_cases h0 : 0 < l.length
   · have C : decide (0 < l.length) = true := decide_eq_true h0
     rw [C]
     go_enter Tryz.func109, Tryz.ntmps109
     go_wp2
     refine bodyPost_ret (res_int rfl _ w.heap.size rfl (cell_newest rfl rfl) (cell_newest rfl rfl)) rfl ?_
     exact ⟨rfl, B.out _⟩
   · have C : decide (0 < l.length) = false := decide_eq_false h0
     rw [C]
     have E : decide ((0 : Int) < (l.length : Int)) = false := decide_eq_false (by omega)
     go_enter Tryz.func109, Tryz.ntmps109
     go_wp2
     refine bodyPost_ret (res_int rfl _ w.heap.size rfl (cell_newest rfl rfl) (cell_newest rfl rfl)) rfl ?_
     exact ⟨rfl, B.out _⟩
theorem made_at {w : World} {s' : Bool} {l : List Nat} (hu : IsU w Z u l) (hs : (s && decide (0 < l.length)) = s') :
  Calls Tryz.prog 109 #[.bool s, u] w fun e w' => e = .returned (.agg #[.bool s', u]) ∧ Below w.heap.size w w' := by
 subst hs
 exact made_any hu
theorem len_pos {m : Nat} : (0 < (limbs m).length) ↔ m ≠ 0 := by
 rw [List.length_pos_iff]
 exact not_congr limbs_eq_nil
structure Box (W : World) (g : Nat) (a b : Value) : Prop where
 c0 : W.cell? ⟨g, 0, none⟩ = some a
 c1 : W.cell? ⟨g, 1, none⟩ = some b
 f0 : W.frozen? ⟨g, 0, none⟩ = false
 f1 : W.frozen? ⟨g, 1, none⟩ = false
 lt : g < W.heap.size
theorem Box.new (w : World) (a b : Value) (t : TypeId) : Box (w.alloc (.cells #[a, b] t)) w.heap.size a b := ⟨cell_newest rfl rfl, cell_newest rfl rfl, by simp, by simp, by simp⟩
theorem Box.below {W' : World} (h : Box W g a b) (hb : Below W.heap.size W W') : Box W' g a b :=
 ⟨keepC hb h.c0, keepC hb h.c1, keepF hb h.lt h.f0, keepF hb h.lt h.f1, Nat.lt_of_lt_of_le h.lt hb.size⟩
theorem Box.alloc (h : Box W g a b) (o : Obj) : Box (W.alloc o) g a b := h.below ((Below.refl _ W).alloc (Nat.le_refl _) _)
structure Put (w W' : World) (g : Nat) (x y : Value) (W : World) : Prop where
 c0 : W'.cell? ⟨g, 0, none⟩ = some x
 c1 : W'.cell? ⟨g, 1, none⟩ = some y
 bel : Below w.heap.size w W'
 keep : ∀ {B : Nat} {u : Value} {l : List Nat}, g < B → IsU W (Go.Proofs.YtdncgncijbnjpaaGreat.new B) u l → IsU W' (Go.Proofs.YtdncgncijbnjpaaGreat.new w.heap.size) u l
 box : Box W' g x y
theorem Box.put {w : World} (h : Box W g a b) (hB : Below w.heap.size w W) (hg : w.heap.size ≤ g) (x y : Value) :
  Put w ((W.setCell ⟨g, 0, none⟩ x).setCell ⟨g, 1, none⟩ y) g x y W := by
 have A : ((W.setCell ⟨g, 0, none⟩ x).setCell ⟨g, 1, none⟩ y).cell? ⟨g, 0, none⟩ = some x := by
  rw [World.cell?_setCell_other _ _ _ _ (by simp)]
  exact World.cell?_setCell_same _ _ _ h.c0
 have C : ((W.setCell ⟨g, 0, none⟩ x).setCell ⟨g, 1, none⟩ y).cell? ⟨g, 1, none⟩ = some y := by
  refine World.cell?_setCell_same _ _ _ (u := b) ?_
  rw [World.cell?_setCell_other _ _ _ _ (by simp)]
  exact h.c1
 refine ⟨A, C, (hB.setCell (p := ⟨g, 0, none⟩) hg _).setCell (p := ⟨g, 1, none⟩) hg _, fun {B u l} hgB hu => (hu.keep fun b' hb' _ => ?_).mono (new_le (by omega)), ⟨A, C, ?_, ?_, ?_⟩⟩
 · have D : b' ≠ g := by have : B ≤ b' := hb'; omega
   rw [Below.heap_setCell _ _ _ _ D, Below.heap_setCell _ _ _ _ D]
 · exact (World.frozen?_setCell _ _ _ _).trans ((World.frozen?_setCell _ _ _ _).trans h.f0)
 · exact (World.frozen?_setCell _ _ _ _).trans ((World.frozen?_setCell _ _ _ _).trans h.f1)
 · have := h.lt
   simpa [World.setCell] using this
theorem wof_any {w : World} {n : Int} (hn : -9223372036854775808 ≤ n ∧ n ≤ 9223372036854775807) :
  Calls Tryz.prog 63 #[.int .i64 n] w fun e w' => ∃ v, e = .returned v ∧ IsZ w' (new w.heap.size) v n ∧ Below w.heap.size w w' := by
 obtain ⟨m, R⟩ : ∃ m, m = n.natAbs := ⟨_, rfl⟩
 have U : m < 18446744073709551616 := by omega
 have L : Below w.heap.size w (w.alloc (.cells #[.bool false, .slice none 0 0] 35)) := (Below.refl _ w).alloc (Nat.le_refl _) _
 have M := Box.new w (.bool false) (.slice none 0 0) 35
 unfold IsZ
 rw [← R]
 by_cases hneg : n < 0
 · obtain ⟨k, Z⟩ : ∃ k : Nat, (k : Int) = n + 18446744073709551616 := ⟨(n + 18446744073709551616).toNat, by omega⟩
   have N : IntKind.u64.wrap n = (k : Int) := by rw [IntKind.wrap_u64]; omega
   have W : IntKind.u64.wrap (-(k : Int)) = (m : Int) := by rw [IntKind.wrap_u64]; omega
   have V : (true && decide (0 < (limbs m).length)) = true := by
    rw [Bool.true_and]
    exact decide_eq_true (len_pos.2 (by omega))
   have X := hid V
   rw [decide_eq_true (p := n < 0) hneg]
   clear R Z V
   go_enter Tryz.func63, Tryz.ntmps63
   go_wp2_with fail
   refine (of_any U).mono ?_
   rintro e S ⟨u, rfl, ⟨D, E, rfl, J⟩, K⟩
   have B : IsU S (new (w.alloc (.cells #[.bool false, .slice none 0 0] 35)).heap.size) (.slice D (limbs m).length E) (limbs m) := ⟨D, E, rfl, J⟩
   have O := M.below K
   have P := from_ L K
   clear J M L N W
   go_wp2_with fail
   refine (made_at B X.out).mono ?_
   rintro e a ⟨rfl, F⟩
   have H := O.below F
   have Q := from_ P F
   have C := H.put Q (Nat.le_refl _) (.bool true) (.slice D (limbs m).length E)
   have I := C.keep (by simp) (B.below F)
   obtain ⟨T, G⟩ := hid2 I C
   obtain ⟨b, c, d, g, _⟩ := H
   clear B I C
   go_wp2
   refine bodyPost_ret (res_int rfl _ w.heap.size rfl G.out.c0 G.out.c1) rfl ?_
   exact ⟨_, rfl, ⟨_, rfl, T.out⟩, G.out.bel⟩
 · have N : IntKind.u64.wrap n = (m : Int) := by rw [IntKind.wrap_u64]; omega
   have Y : decide (n < 0) = false := decide_eq_false hneg
   rw [Y]
   clear R hneg
   go_enter Tryz.func63, Tryz.ntmps63
   go_wp2_with fail
   refine (of_any U).mono ?_
   rintro e S ⟨u, rfl, ⟨D, E, rfl, J⟩, K⟩
   have B : IsU S (new (w.alloc (.cells #[.bool false, .slice none 0 0] 35)).heap.size) (.slice D (limbs m).length E) (limbs m) := ⟨D, E, rfl, J⟩
   have O := M.below K
   have P := from_ L K
   clear J M L N
   go_wp2_with fail
   refine (made_at (s' := false) B rfl).mono ?_
   rintro e a ⟨rfl, F⟩
   have H := O.below F
   have Q := from_ P F
   have C := H.put Q (Nat.le_refl _) (.bool false) (.slice D (limbs m).length E)
   have I := C.keep (by simp) (B.below F)
   obtain ⟨T, G⟩ := hid2 I C
   obtain ⟨b, c, d, g, _⟩ := H
   clear B I C
   go_wp2
   refine bodyPost_ret (res_int rfl _ w.heap.size rfl G.out.c0 G.out.c1) rfl ?_
   exact ⟨_, rfl, ⟨_, rfl, T.out⟩, G.out.bel⟩
def okI (s : Bool) (l : List Nat) : Bool := good l && !(s && l.length == 0)
def errC (s : Bool) (l : List Nat) : Int := if okI s l = true then 0 else 8
def zof (s : Bool) (l : List Nat) : Int := if s = true then -(val l : Int) else (val l : Int)
theorem val_zero {l : List Nat} (h : good l = true) (hs : Small l) (h0 : val l = 0) : l = [] := by
 rw [← limbs_val l hs h, h0]
 rfl
theorem zof_enc {l : List Nat} (h : okI s l = true) (hs : Small l) : decide (zof s l < 0) = s ∧ limbs (zof s l).natAbs = l := by
 unfold okI at h
 rw [Bool.and_eq_true] at h
 obtain ⟨B, C⟩ := h
 have A := limbs_val l hs B
 cases s with
 | false =>
   simp only [zof, Bool.false_eq_true, if_false]
   exact ⟨decide_eq_false (by omega), by rw [Int.natAbs_natCast]; exact A⟩
 | true =>
   simp only [zof, if_true]
   have D : val l ≠ 0 := fun h0 => by
    rw [val_zero B hs h0] at C
    simp at C
   exact ⟨decide_eq_true (by omega), by rw [Int.natAbs_neg, Int.natAbs_natCast]; exact A⟩
theorem IsI.num {w : World} {l : List Nat} (h : IsI w Z v s l) (hk : okI s l = true) : IsZ w Z v (zof s l) := by
 obtain ⟨u, e, A⟩ := h
 obtain ⟨B, C⟩ := zof_enc hk A.small
 unfold IsZ
 rw [B, C]
 exact ⟨u, e, A⟩
theorem IsZ.ok (x : Int) : okI (decide (x < 0)) (limbs x.natAbs) = true := by
 unfold okI
 rw [good_limbs, Bool.true_and]
 by_cases h : x < 0
 · have : (limbs x.natAbs).length ≠ 0 := fun e => by
    have := limbs_eq_nil.1 (List.length_eq_zero_iff.1 e)
    omega
   simp [h, this]
 · simp [h]
theorem wcheck_any {w : World} {l : List Nat} (ha : IsI w Z a s l) :
  Calls Tryz.prog 177 #[a] w fun e w' => e = .returned (.int .i64 (errC s l)) ∧ Below w.heap.size w w' := by
 obtain ⟨_, rfl, A, c, rfl, F⟩ := ha
 have L := F.len
 have C : Below w.heap.size w (w.alloc (.cells #[.bool s, .slice A l.length c] 35)) := (Below.refl _ w).alloc (Nat.le_refl _) _
 obtain ⟨J, K, _, _, _⟩ := Box.new w (.bool s) (.slice A l.length c) 35
 have E := F.below C
 cases hg : good l with
 | false =>
   have D := check_bad E hg
   have B : errC s l = 8 := by simp [errC, okI, hg]
   rw [B]
   obtain ⟨G, H⟩ := hid2 D C
   clear D F E hg B C
   go_enter Tryz.func177, Tryz.ntmps177
   go_wp2_with fail
   refine G.out.mono ?_
   rintro e I ⟨rfl, rfl⟩
   go_wp2
   go_ret
   exact ⟨rfl, H.out⟩
 | true =>
   have D := check_good E hg
   obtain ⟨G, H⟩ := hid2 D C
   cases s with
   | false =>
     have B : errC false l = 0 := by simp [errC, okI, hg]
     rw [B]
     clear D F E hg B C
     go_enter Tryz.func177, Tryz.ntmps177
     go_wp2_with fail
     refine G.out.mono ?_
     rintro e I ⟨rfl, rfl⟩
     go_wp2
     go_ret
     exact ⟨rfl, H.out⟩
   | true =>
     by_cases h0 : l.length = 0
     · have B : errC true l = 8 := by simp [errC, okI, h0]
       rw [B]
       rw [h0] at G H J K ⊢
       clear D F E hg B C
       go_enter Tryz.func177, Tryz.ntmps177
       go_wp2_with fail
       refine G.out.mono ?_
       rintro e I ⟨rfl, rfl⟩
       go_wp2
       go_ret
       exact ⟨rfl, H.out⟩
     · have B : errC true l = 0 := by simp [errC, okI, hg, h0]
       rw [B]
       have M : ((l.length : Int) == 0) = false := beq_eq_false_iff_ne.2 (by omega)
       clear D F E hg B C
       go_enter Tryz.func177, Tryz.ntmps177
       go_wp2_with fail
       refine G.out.mono ?_
       rintro e I ⟨rfl, rfl⟩
       go_wp2
       go_ret
       exact ⟨rfl, H.out⟩
def GivenI (w : World) (g : Nat) (ps : List (Bool × List Nat)) : Prop :=
 ∀ j (h : j < ps.length), ∃ u, w.cell? ⟨g, j * 2, none⟩ = some (.bool ps[j].1) ∧ w.cell? ⟨g, j * 2 + 1, none⟩ = some u ∧ IsU w old u ps[j].2
theorem GivenI.below {w : World} {ps : List (Bool × List Nat)} (h : GivenI w g ps) (hb : Below w.heap.size w w') : GivenI w' g ps := fun j hj => by
 obtain ⟨u, A, B, C⟩ := h j hj
 exact ⟨u, keepC hb A, keepC hb B, C.below hb⟩
def errCs (ps : List (Bool × List Nat)) : Int := if ps.all (fun p => okI p.1 p.2) = true then 0 else 8
theorem wchecked_any {w : World} {n : Nat} {ps : List (Bool × List Nat)} (h : GivenI w g ps) (hn : n = ps.length) (hl : ps.length ≤ 1000) :
  Calls Tryz.prog 178 #[.slice (some ⟨g, 0, none⟩) n c] w fun e w' => e = .returned (.int .i64 (errCs ps)) ∧ Below w.heap.size w w' := by
 subst hn
 go_enter Tryz.func178, Tryz.ntmps178
 go_wp2
 go_loopw [8] (fun i wr => ∃ k : Nat, k ≤ ps.length ∧ i = .int .i64 k ∧ Below w.heap.size w wr ∧ Hid (∀ j (C : j < ps.length), j < k → okI ps[j].1 ps[j].2 = true)) (fun i _ => ps.length - (intOf i).toNat)
 case atStart => exact ⟨0, Nat.zero_le _, rfl, Below.refl _ _, fun j C h => absurd h (by omega)⟩
 case round =>
  obtain ⟨k, X, rfl, F, I⟩ := hrel
  by_cases hlt : k < ps.length
  · obtain ⟨u, Y, J, V⟩ := (h.below F) k hlt
    obtain ⟨A, G, rfl, R⟩ := V
    have N : IsI wr old (.agg #[.bool ps[k].1, .slice A ps[k].2.length G]) ps[k].1 ps[k].2 := ⟨_, rfl, A, G, rfl, R⟩
    have O := N.below ((Below.refl _ wr).alloc (Nat.le_refl _) (.cells #[.bool ps[k].1, .slice A ps[k].2.length G] 35))
    have D := wcheck_any O
    have P : Below w.heap.size w (wr.alloc (.cells #[.bool ps[k].1, .slice A ps[k].2.length G] 35)) := F.alloc F.size _
    have B : okI ps[k].1 ps[k].2 = true ∨ okI ps[k].1 ps[k].2 = false := by cases okI ps[k].1 ps[k].2 <;> simp
    have S : Hid (okI ps[k].1 ps[k].2 = true → ∀ j (C : j < ps.length), j < k + 1 → okI ps[j].1 ps[j].2 = true) := fun hx j C hjk => by
     rcases Nat.lt_or_ge j k with J | J
     · exact I.out j C J
     · obtain rfl : j = k := by omega
       exact hx
    have T : Hid (okI ps[k].1 ps[k].2 = false → errCs ps = 8) := fun hx => by
     unfold errCs
     rw [if_neg]
     intro hall
     have := List.all_eq_true.1 hall ps[k] (List.getElem_mem hlt)
     rw [this] at hx
     cases hx
    clear N O R I
    generalize ps[k].1 = s at *
    generalize ps[k].2 = l at *
    rcases B with B | B
    · have E : errC s l = 0 := by simp [errC, B]
      rw [E] at D
      obtain ⟨K, L⟩ := hid2 D B
      clear D B E
      go_wp2_with fail
      refine K.out.mono ?_
      rintro e W ⟨rfl, M⟩
      have H := from_ P M
      go_wp2
      go_roundw
      case rel => exact ⟨k + 1, by omega, by go_num, H, hid (S.out L.out)⟩
      case measure => simp [intOf]; omega
    · have E : errC s l = 8 := by simp [errC, B]
      rw [E] at D
      obtain ⟨K, L⟩ := hid2 D B
      clear D B E
      go_wp2_with fail
      refine K.out.mono ?_
      rintro e W ⟨rfl, M⟩
      have H := from_ P M
      go_wp2
      go_ret
      rw [T.out L.out]
      exact ⟨rfl, H⟩
  · obtain rfl : k = ps.length := by omega
    have Q : errCs ps = 0 := by
     unfold errCs
     rw [if_pos]
     rw [List.all_eq_true]
     intro p hp
     obtain ⟨j, C, rfl⟩ := List.getElem_of_mem hp
     exact I.out j C C
    have U := hid Q
    clear Q
    go_wp2
    go_ret
    rw [U.out]
    exact ⟨rfl, F⟩
structure RowK (k : Nat) (w : World) (A : Option Addr) (c n : Nat) (x : Nat → Nat → Value) : Prop where
 cap : n ≤ c
 max : c ≤ 9223372036854775807
 row : 0 < n → ∃ b o, A = some ⟨b, o, none⟩ ∧ b < w.heap.size ∧ ∀ j, j < n → ∀ i, i < k → w.cell? ⟨b, o + j * k + i, none⟩ = some (x j i)
theorem RowK.nil (k : Nat) (w : World) (x : Nat → Nat → Value) : RowK k w none 0 0 x := ⟨by omega, by omega, fun h => absurd h (by omega)⟩
theorem RowK.below {k : Nat} {w : World} {n : Nat} {x : Nat → Nat → Value} (h : RowK k w A c n x) (hb : Below w.heap.size w w') : RowK k w' A c n x := by
 refine ⟨h.cap, h.max, fun h0 => ?_⟩
 obtain ⟨b, o, e, B, C⟩ := h.row h0
 exact ⟨b, o, e, Nat.lt_of_lt_of_le B hb.size, fun j hj i hi => keepC hb (C j hj i hi)⟩
theorem RowK.len {k : Nat} {w : World} {n : Nat} {x : Nat → Nat → Value} (h : RowK k w A c n x) : n ≤ 9223372036854775807 := Nat.le_trans h.cap h.max
def Goes (F : Nat) : Prop := ∀ args w, Sem.run Tryz.prog (callFunc F args) w = .ok (.enter F args) w
theorem goes_of {fn : Func} (h : Tryz.prog.funcs[F]? = some fn) (hn : (fn.name == "runtime.NumGoroutine") = false) (hb : fn.body.isNone = false) : Goes F := fun args w => by
 have B : fn.name ≠ "runtime.NumGoroutine" := by simpa using hn
 have C : ¬ fn.body = none := fun e => by rw [e] at hb; cases hb
 simp [callFunc, h, B, C, Sem.run]
theorem any_lt {f : Nat → Bool} {n : Nat} : (List.range n).any f = true ↔ ∃ j, j < n ∧ f j = true := by
 simp [List.any_eq_true]
theorem RowK.at1 {w : World} {n : Nat} {x : Nat → Nat → Value} (h : RowK 1 w A c n x) (hj : j < n) :
  ∃ b o, A = some ⟨b, o, none⟩ ∧ b < w.heap.size ∧ w.cell? ⟨b, o + j, none⟩ = some (x j 0) := by
 obtain ⟨b, o, e, B, C⟩ := h.row (by omega)
 exact ⟨b, o, e, B, by simpa using C j hj 0 (by omega)⟩
theorem RowK.at5 {w : World} {n : Nat} {x : Nat → Nat → Value} (h : RowK 5 w A c n x) (hj : j < n) :
  ∃ b o, A = some ⟨b, o, none⟩ ∧ b < w.heap.size ∧ w.cell? ⟨b, o + j * 5, none⟩ = some (x j 0) ∧ w.cell? ⟨b, o + j * 5 + 1, none⟩ = some (x j 1) ∧ w.cell? ⟨b, o + j * 5 + 2, none⟩ = some (x j 2) ∧ w.cell? ⟨b, o + j * 5 + 3, none⟩ = some (x j 3) ∧ w.cell? ⟨b, o + j * 5 + 4, none⟩ = some (x j 4) := by
 obtain ⟨b, o, e, C, B⟩ := h.row (by omega)
 exact ⟨b, o, e, C, by simpa using B j hj 0 (by omega), by simpa using B j hj 1 (by omega), by simpa using B j hj 2 (by omega), by simpa using B j hj 3 (by omega), by simpa using B j hj 4 (by omega)⟩
theorem RowK.at6 {w : World} {n : Nat} {x : Nat → Nat → Value} (h : RowK 6 w A c n x) (hj : j < n) :
  ∃ b o, A = some ⟨b, o, none⟩ ∧ b < w.heap.size ∧ w.cell? ⟨b, o + j * 6, none⟩ = some (x j 0) ∧ w.cell? ⟨b, o + j * 6 + 1, none⟩ = some (x j 1) ∧ w.cell? ⟨b, o + j * 6 + 2, none⟩ = some (x j 2) ∧ w.cell? ⟨b, o + j * 6 + 3, none⟩ = some (x j 3) ∧ w.cell? ⟨b, o + j * 6 + 4, none⟩ = some (x j 4) ∧ w.cell? ⟨b, o + j * 6 + 5, none⟩ = some (x j 5) := by
 obtain ⟨b, o, e, C, B⟩ := h.row (by omega)
 exact ⟨b, o, e, C, by simpa using B j hj 0 (by omega), by simpa using B j hj 1 (by omega), by simpa using B j hj 2 (by omega), by simpa using B j hj 3 (by omega), by simpa using B j hj 4 (by omega), by simpa using B j hj 5 (by omega)⟩
theorem RowK.at7 {w : World} {n : Nat} {x : Nat → Nat → Value} (h : RowK 7 w A c n x) (hj : j < n) :
  ∃ b o, A = some ⟨b, o, none⟩ ∧ b < w.heap.size ∧ w.cell? ⟨b, o + j * 7, none⟩ = some (x j 0) ∧ w.cell? ⟨b, o + j * 7 + 1, none⟩ = some (x j 1) ∧ w.cell? ⟨b, o + j * 7 + 2, none⟩ = some (x j 2) ∧ w.cell? ⟨b, o + j * 7 + 3, none⟩ = some (x j 3) ∧ w.cell? ⟨b, o + j * 7 + 4, none⟩ = some (x j 4) ∧ w.cell? ⟨b, o + j * 7 + 5, none⟩ = some (x j 5) ∧ w.cell? ⟨b, o + j * 7 + 6, none⟩ = some (x j 6) := by
 obtain ⟨b, o, e, C, B⟩ := h.row (by omega)
 exact ⟨b, o, e, C, by simpa using B j hj 0 (by omega), by simpa using B j hj 1 (by omega), by simpa using B j hj 2 (by omega), by simpa using B j hj 3 (by omega), by simpa using B j hj 4 (by omega), by simpa using B j hj 5 (by omega), by simpa using B j hj 6 (by omega)⟩
theorem sindex_int {w : World} {n : Nat} {x : Nat → Nat → Value} {caps : Array Value} {f : Nat → Bool} (hF : Goes F) (ha : RowK 1 w A c n x)
  (hf : ∀ j, j < n → ∀ W, Below w.heap.size w W → Calls Tryz.prog F (#[x j 0] ++ caps) W fun e w' => e = .returned (.bool (f j)) ∧ Below W.heap.size W w') :
  Calls Tryz.prog 112 #[.slice A n c, .func (.func F) #[] caps] w fun e w' => (∃ r, e = .returned (.int .i64 r) ∧ decide (0 ≤ r) = (List.range n).any f) ∧ Below w.heap.size w w' := by
 have Q := ha.len
 obtain ⟨M, N⟩ := hid2 hf ha
 clear hf ha
 go_enter Tryz.func112, Tryz.ntmps112
 go_wp2
 go_loopw [8] (fun i wr => ∃ k : Nat, k ≤ n ∧ i = .int .i64 k ∧ Below w.heap.size w wr ∧ Hid (∀ j, j < k → f j = false)) (fun i _ => n - (intOf i).toNat)
 case atStart => exact ⟨0, Nat.zero_le _, rfl, Below.refl _ _, fun j h => absurd h (by omega)⟩
 case round =>
  obtain ⟨k, S, rfl, B, C⟩ := hrel
  by_cases hlt : k < n
  · obtain ⟨b, o, rfl, T, U⟩ := (N.out.below B).at1 hlt
    have D := M.out k hlt wr B
    have H : Hid (f k = false → ∀ j, j < k + 1 → f j = false) := fun hx j hjk => by
     rcases Nat.lt_or_ge j k with h1 | h1
     · exact C.out j h1
     · obtain rfl : j = k := by omega
       exact hx
    have I : Hid (f k = true → (List.range n).any f = true) := fun hx => any_lt.2 ⟨k, hlt, hx⟩
    clear C
    generalize x k 0 = v0 at *
    have J : f k = true ∨ f k = false := by cases f k <;> simp
    generalize f k = R at *
    rcases J with rfl | rfl
    all_goals
     have K := hid D
     clear D
     go_wp2_with fail
     rw [hF]
     refine K.out.mono ?_
     rintro e V ⟨rfl, O⟩
     have E := from_ B O
     go_wp2
    · go_ret
      exact ⟨⟨_, rfl, by rw [I.out (by first | rfl | trivial)]; exact decide_eq_true (by omega)⟩, E⟩
    · go_roundw
      case rel => exact ⟨k + 1, by omega, by go_num, E, hid (H.out (by first | rfl | trivial))⟩
      case measure => simp [intOf]; omega
  · obtain rfl : k = n := by omega
    have G : (List.range k).any f = false := by
     cases hall : (List.range k).any f
     · rfl
     · obtain ⟨j, P, e⟩ := any_lt.1 hall
       rw [C.out j P] at e
       cases e
    have L := hid G
    clear G C
    go_wp2
    go_ret
    exact ⟨⟨_, rfl, by rw [L.out]; rfl⟩, B⟩
theorem scontains_int {w : World} {n : Nat} {x : Nat → Nat → Value} {caps : Array Value} {f : Nat → Bool} (hF : Goes F) (ha : RowK 1 w A c n x)
  (hf : ∀ j, j < n → ∀ W, Below w.heap.size w W → Calls Tryz.prog F (#[x j 0] ++ caps) W fun e w' => e = .returned (.bool (f j)) ∧ Below W.heap.size W w') :
  Calls Tryz.prog 67 #[.slice A n c, .func (.func F) #[] caps] w fun e w' => e = .returned (.bool ((List.range n).any f)) ∧ Below w.heap.size w w' := by
 have B := hid (sindex_int hF ha hf)
 clear hf ha
 generalize (List.range n).any f = R at *
 go_enter Tryz.func67, Tryz.ntmps67
 go_wp2_with fail
 refine B.out.mono ?_
 rintro e D ⟨⟨r, rfl, E⟩, C⟩
 go_wp2
 go_ret
 exact ⟨rfl, C⟩
theorem sindex_edge {w : World} {n : Nat} {x : Nat → Nat → Value} {caps : Array Value} {f : Nat → Bool} (hF : Goes F) (ha : RowK 7 w A c n x)
  (hf : ∀ j, j < n → ∀ W, Below w.heap.size w W → Calls Tryz.prog F (#[.agg #[x j 0, x j 1, x j 2, x j 3, x j 4, x j 5, x j 6]] ++ caps) W fun e w' => e = .returned (.bool (f j)) ∧ Below W.heap.size W w') :
  Calls Tryz.prog 113 #[.slice A n c, .func (.func F) #[] caps] w fun e w' => (∃ r, e = .returned (.int .i64 r) ∧ decide (0 ≤ r) = (List.range n).any f) ∧ Below w.heap.size w w' := by
 have Q := ha.len
 obtain ⟨M, N⟩ := hid2 hf ha
 clear hf ha
 go_enter Tryz.func113, Tryz.ntmps113
 go_wp2
 go_loopw [8] (fun i wr => ∃ k : Nat, k ≤ n ∧ i = .int .i64 k ∧ Below w.heap.size w wr ∧ Hid (∀ j, j < k → f j = false)) (fun i _ => n - (intOf i).toNat)
 case atStart => exact ⟨0, Nat.zero_le _, rfl, Below.refl _ _, fun j h => absurd h (by omega)⟩
 case round =>
  obtain ⟨k, S, rfl, B, C⟩ := hrel
  by_cases hlt : k < n
  · obtain ⟨b, o, rfl, T, U, V, X, Y, Z, a, d⟩ := (N.out.below B).at7 hlt
    have D := M.out k hlt wr B
    have H : Hid (f k = false → ∀ j, j < k + 1 → f j = false) := fun hx j hjk => by
     rcases Nat.lt_or_ge j k with h1 | h1
     · exact C.out j h1
     · obtain rfl : j = k := by omega
       exact hx
    have I : Hid (f k = true → (List.range n).any f = true) := fun hx => any_lt.2 ⟨k, hlt, hx⟩
    clear C
    generalize x k 0 = v0 at *; generalize x k 1 = v1 at *; generalize x k 2 = v2 at *; generalize x k 3 = v3 at *; generalize x k 4 = v4 at *; generalize x k 5 = v5 at *; generalize x k 6 = v6 at *
    have J : f k = true ∨ f k = false := by cases f k <;> simp
    generalize f k = R at *
    rcases J with rfl | rfl
    all_goals
     have K := hid D
     clear D
     go_wp2_with fail
     rw [hF]
     refine K.out.mono ?_
     rintro e g ⟨rfl, O⟩
     have E := from_ B O
     go_wp2
    · go_ret
      exact ⟨⟨_, rfl, by rw [I.out (by first | rfl | trivial)]; exact decide_eq_true (by omega)⟩, E⟩
    · go_roundw
      case rel => exact ⟨k + 1, by omega, by go_num, E, hid (H.out (by first | rfl | trivial))⟩
      case measure => simp [intOf]; omega
  · obtain rfl : k = n := by omega
    have G : (List.range k).any f = false := by
     cases hall : (List.range k).any f
     · rfl
     · obtain ⟨j, P, e⟩ := any_lt.1 hall
       rw [C.out j P] at e
       cases e
    have L := hid G
    clear G C
    go_wp2
    go_ret
    exact ⟨⟨_, rfl, by rw [L.out]; rfl⟩, B⟩
theorem scontains_edge {w : World} {n : Nat} {x : Nat → Nat → Value} {caps : Array Value} {f : Nat → Bool} (hF : Goes F) (ha : RowK 7 w A c n x)
  (hf : ∀ j, j < n → ∀ W, Below w.heap.size w W → Calls Tryz.prog F (#[.agg #[x j 0, x j 1, x j 2, x j 3, x j 4, x j 5, x j 6]] ++ caps) W fun e w' => e = .returned (.bool (f j)) ∧ Below W.heap.size W w') :
  Calls Tryz.prog 69 #[.slice A n c, .func (.func F) #[] caps] w fun e w' => e = .returned (.bool ((List.range n).any f)) ∧ Below w.heap.size w w' := by
 have B := hid (sindex_edge hF ha hf)
 clear hf ha
 generalize (List.range n).any f = R at *
 go_enter Tryz.func69, Tryz.ntmps69
 go_wp2_with fail
 refine B.out.mono ?_
 rintro e D ⟨⟨r, rfl, E⟩, C⟩
 go_wp2
 go_ret
 exact ⟨rfl, C⟩
theorem sindex_expr {w : World} {n : Nat} {x : Nat → Nat → Value} {caps : Array Value} {f : Nat → Bool} (hF : Goes F) (ha : RowK 5 w A c n x)
  (hf : ∀ j, j < n → ∀ W, Below w.heap.size w W → Calls Tryz.prog F (#[.agg #[x j 0, x j 1, x j 2, x j 3, x j 4]] ++ caps) W fun e w' => e = .returned (.bool (f j)) ∧ Below W.heap.size W w') :
  Calls Tryz.prog 142 #[.slice A n c, .func (.func F) #[] caps] w fun e w' => (∃ r, e = .returned (.int .i64 r) ∧ decide (0 ≤ r) = (List.range n).any f) ∧ Below w.heap.size w w' := by
 have Q := ha.len
 obtain ⟨M, N⟩ := hid2 hf ha
 clear hf ha
 go_enter Tryz.func142, Tryz.ntmps142
 go_wp2
 go_loopw [8] (fun i wr => ∃ k : Nat, k ≤ n ∧ i = .int .i64 k ∧ Below w.heap.size w wr ∧ Hid (∀ j, j < k → f j = false)) (fun i _ => n - (intOf i).toNat)
 case atStart => exact ⟨0, Nat.zero_le _, rfl, Below.refl _ _, fun j h => absurd h (by omega)⟩
 case round =>
  obtain ⟨k, S, rfl, B, C⟩ := hrel
  by_cases hlt : k < n
  · obtain ⟨b, o, rfl, T, U, V, X, Y, Z⟩ := (N.out.below B).at5 hlt
    have D := M.out k hlt wr B
    have H : Hid (f k = false → ∀ j, j < k + 1 → f j = false) := fun hx j hjk => by
     rcases Nat.lt_or_ge j k with h1 | h1
     · exact C.out j h1
     · obtain rfl : j = k := by omega
       exact hx
    have I : Hid (f k = true → (List.range n).any f = true) := fun hx => any_lt.2 ⟨k, hlt, hx⟩
    clear C
    generalize x k 0 = v0 at *; generalize x k 1 = v1 at *; generalize x k 2 = v2 at *; generalize x k 3 = v3 at *; generalize x k 4 = v4 at *
    have J : f k = true ∨ f k = false := by cases f k <;> simp
    generalize f k = R at *
    rcases J with rfl | rfl
    all_goals
     have K := hid D
     clear D
     go_wp2_with fail
     rw [hF]
     refine K.out.mono ?_
     rintro e a ⟨rfl, O⟩
     have E := from_ B O
     go_wp2
    · go_ret
      exact ⟨⟨_, rfl, by rw [I.out (by first | rfl | trivial)]; exact decide_eq_true (by omega)⟩, E⟩
    · go_roundw
      case rel => exact ⟨k + 1, by omega, by go_num, E, hid (H.out (by first | rfl | trivial))⟩
      case measure => simp [intOf]; omega
  · obtain rfl : k = n := by omega
    have G : (List.range k).any f = false := by
     cases hall : (List.range k).any f
     · rfl
     · obtain ⟨j, P, e⟩ := any_lt.1 hall
       rw [C.out j P] at e
       cases e
    have L := hid G
    clear G C
    go_wp2
    go_ret
    exact ⟨⟨_, rfl, by rw [L.out]; rfl⟩, B⟩
theorem scontains_expr {w : World} {n : Nat} {x : Nat → Nat → Value} {caps : Array Value} {f : Nat → Bool} (hF : Goes F) (ha : RowK 5 w A c n x)
  (hf : ∀ j, j < n → ∀ W, Below w.heap.size w W → Calls Tryz.prog F (#[.agg #[x j 0, x j 1, x j 2, x j 3, x j 4]] ++ caps) W fun e w' => e = .returned (.bool (f j)) ∧ Below W.heap.size W w') :
  Calls Tryz.prog 90 #[.slice A n c, .func (.func F) #[] caps] w fun e w' => e = .returned (.bool ((List.range n).any f)) ∧ Below w.heap.size w w' := by
 have B := hid (sindex_expr hF ha hf)
 clear hf ha
 generalize (List.range n).any f = R at *
 go_enter Tryz.func90, Tryz.ntmps90
 go_wp2_with fail
 refine B.out.mono ?_
 rintro e D ⟨⟨r, rfl, E⟩, C⟩
 go_wp2
 go_ret
 exact ⟨rfl, C⟩
theorem sindex_itv {w : World} {n : Nat} {x : Nat → Nat → Value} {caps : Array Value} {f : Nat → Bool} (hF : Goes F) (ha : RowK 6 w A c n x)
  (hf : ∀ j, j < n → ∀ W, Below w.heap.size w W → Calls Tryz.prog F (#[.agg #[x j 0, x j 1, x j 2, x j 3, x j 4, x j 5]] ++ caps) W fun e w' => e = .returned (.bool (f j)) ∧ Below W.heap.size W w') :
  Calls Tryz.prog 119 #[.slice A n c, .func (.func F) #[] caps] w fun e w' => (∃ r, e = .returned (.int .i64 r) ∧ decide (0 ≤ r) = (List.range n).any f) ∧ Below w.heap.size w w' := by
 have Q := ha.len
 obtain ⟨M, N⟩ := hid2 hf ha
 clear hf ha
 go_enter Tryz.func119, Tryz.ntmps119
 go_wp2
 go_loopw [8] (fun i wr => ∃ k : Nat, k ≤ n ∧ i = .int .i64 k ∧ Below w.heap.size w wr ∧ Hid (∀ j, j < k → f j = false)) (fun i _ => n - (intOf i).toNat)
 case atStart => exact ⟨0, Nat.zero_le _, rfl, Below.refl _ _, fun j h => absurd h (by omega)⟩
 case round =>
  obtain ⟨k, S, rfl, B, C⟩ := hrel
  by_cases hlt : k < n
  · obtain ⟨b, o, rfl, T, U, V, X, Y, Z, a⟩ := (N.out.below B).at6 hlt
    have D := M.out k hlt wr B
    have H : Hid (f k = false → ∀ j, j < k + 1 → f j = false) := fun hx j hjk => by
     rcases Nat.lt_or_ge j k with h1 | h1
     · exact C.out j h1
     · obtain rfl : j = k := by omega
       exact hx
    have I : Hid (f k = true → (List.range n).any f = true) := fun hx => any_lt.2 ⟨k, hlt, hx⟩
    clear C
    generalize x k 0 = v0 at *; generalize x k 1 = v1 at *; generalize x k 2 = v2 at *; generalize x k 3 = v3 at *; generalize x k 4 = v4 at *; generalize x k 5 = v5 at *
    have J : f k = true ∨ f k = false := by cases f k <;> simp
    generalize f k = R at *
    rcases J with rfl | rfl
    all_goals
     have K := hid D
     clear D
     go_wp2_with fail
     rw [hF]
     refine K.out.mono ?_
     rintro e d ⟨rfl, O⟩
     have E := from_ B O
     go_wp2
    · go_ret
      exact ⟨⟨_, rfl, by rw [I.out (by first | rfl | trivial)]; exact decide_eq_true (by omega)⟩, E⟩
    · go_roundw
      case rel => exact ⟨k + 1, by omega, by go_num, E, hid (H.out (by first | rfl | trivial))⟩
      case measure => simp [intOf]; omega
  · obtain rfl : k = n := by omega
    have G : (List.range k).any f = false := by
     cases hall : (List.range k).any f
     · rfl
     · obtain ⟨j, P, e⟩ := any_lt.1 hall
       rw [C.out j P] at e
       cases e
    have L := hid G
    clear G C
    go_wp2
    go_ret
    exact ⟨⟨_, rfl, by rw [L.out]; rfl⟩, B⟩
theorem scontains_itv {w : World} {n : Nat} {x : Nat → Nat → Value} {caps : Array Value} {f : Nat → Bool} (hF : Goes F) (ha : RowK 6 w A c n x)
  (hf : ∀ j, j < n → ∀ W, Below w.heap.size w W → Calls Tryz.prog F (#[.agg #[x j 0, x j 1, x j 2, x j 3, x j 4, x j 5]] ++ caps) W fun e w' => e = .returned (.bool (f j)) ∧ Below W.heap.size W w') :
  Calls Tryz.prog 74 #[.slice A n c, .func (.func F) #[] caps] w fun e w' => e = .returned (.bool ((List.range n).any f)) ∧ Below w.heap.size w w' := by
 have B := hid (sindex_itv hF ha hf)
 clear hf ha
 generalize (List.range n).any f = R at *
 go_enter Tryz.func74, Tryz.ntmps74
 go_wp2_with fail
 refine B.out.mono ?_
 rintro e D ⟨⟨r, rfl, E⟩, C⟩
 go_wp2
 go_ret
 exact ⟨rfl, C⟩
theorem size_alloc (w : World) (o : Obj) : (w.alloc o).heap.size = w.heap.size + 1 := by simp
theorem boxes3 (w : World) (a0 a1 b0 b1 r0 r1 : Value) (t : TypeId) :
  Box (((w.alloc (.cells #[a0, a1] t)).alloc (.cells #[b0, b1] t)).alloc (.cells #[r0, r1] t)) w.heap.size a0 a1 ∧
  Box (((w.alloc (.cells #[a0, a1] t)).alloc (.cells #[b0, b1] t)).alloc (.cells #[r0, r1] t)) (w.heap.size + 1) b0 b1 ∧
  Box (((w.alloc (.cells #[a0, a1] t)).alloc (.cells #[b0, b1] t)).alloc (.cells #[r0, r1] t)) (w.heap.size + 2) r0 r1 ∧
  Below w.heap.size w (((w.alloc (.cells #[a0, a1] t)).alloc (.cells #[b0, b1] t)).alloc (.cells #[r0, r1] t)) := by
 have C := ((Box.new w a0 a1 t).alloc (.cells #[b0, b1] t)).alloc (.cells #[r0, r1] t)
 have A := (Box.new (w.alloc (.cells #[a0, a1] t)) b0 b1 t).alloc (.cells #[r0, r1] t)
 have B := Box.new ((w.alloc (.cells #[a0, a1] t)).alloc (.cells #[b0, b1] t)) r0 r1 t
 rw [size_alloc] at A
 rw [size_alloc, size_alloc] at B
 refine ⟨C, A, B, ?_⟩
 exact (((Below.refl _ w).alloc (Nat.le_refl _) _).alloc (by rw [size_alloc]; omega) _).alloc (by rw [size_alloc, size_alloc]; omega) _
theorem wsum_good {w : World} {Y : Zone} {y : Int} (ha : IsZ w Z a x) (hb : IsZ w Y b y) (hl : (limbs x.natAbs).length ≤ 800000000000) (hl2 : (limbs y.natAbs).length ≤ 800000000000) :
  Calls Tryz.prog 179 #[a, b] w fun e w' => ∃ v, e = .returned v ∧ IsZ w' (new w.heap.size) v (x + y) ∧ Below w.heap.size w w' := by
 obtain ⟨_, rfl, A, ca, rfl, hu⟩ := ha
 obtain ⟨_, rfl, B, cb, rfl, E⟩ := hb
 obtain ⟨m, hm⟩ : ∃ m, m = x.natAbs := ⟨_, rfl⟩
 obtain ⟨n, hn⟩ : ∃ n, n = y.natAbs := ⟨_, rfl⟩
 rw [← hm] at hu hl ⊢
 rw [← hn] at E hl2 ⊢
 have h : IsN w Z (.slice A (limbs m).length ca) m := ⟨A, ca, rfl, hu⟩
 have i : IsN w Y (.slice B (limbs n).length cb) n := ⟨B, cb, rfl, E⟩
 clear hu E
 by_cases hs : decide (x < 0) = decide (y < 0)
 · rw [← hs]
   obtain ⟨s, R⟩ : ∃ s, s = decide (x < 0) := ⟨_, rfl⟩
   have W : (s && decide (0 < (limbs (m + n)).length)) = decide (x + y < 0) ∧ (x + y).natAbs = m + n := by
    by_cases hx : x < 0
    · have L : y < 0 := by rw [decide_eq_true hx] at hs; exact of_decide_eq_true hs.symm
      have h1 : 0 < (limbs (m + n)).length := len_pos.2 (by omega)
      exact ⟨by rw [R, decide_eq_true hx, decide_eq_true h1, decide_eq_true (show x + y < 0 by omega)]; rfl, by omega⟩
    · have L : ¬ y < 0 := by rw [decide_eq_false hx] at hs; exact of_decide_eq_false hs.symm
      exact ⟨by rw [R, decide_eq_false hx, decide_eq_false (show ¬ x + y < 0 by omega)]; rfl, by omega⟩
   rw [← R]
   obtain ⟨X, c, S, D⟩ := boxes3 w (.bool s) (.slice A (limbs m).length ca) (.bool s) (.slice B (limbs n).length cb) (.bool false) (.slice none 0 0) 35
   unfold IsZ
   rw [W.2]
   have j := hid W.1
   clear hs R W hm hn
   go_enter Tryz.func179, Tryz.ntmps179
   obtain ⟨M, U, _, _, _⟩ := X
   obtain ⟨N, V, _, _, _⟩ := c
   go_wp2_with fail
   refine (add_good (h.below D) (i.below D) (by omega) (by omega)).mono ?_
   rintro e o ⟨v, rfl, ⟨G, H, rfl, T⟩, C⟩
   have E : IsU o _ (.slice G (limbs (m + n)).length H) (limbs (m + n)) := ⟨G, H, rfl, T⟩
   have M := keepC C M
   have O := S.below C
   have K := from_ D C
   clear T N V U S
   go_wp2_with fail
   refine (made_at E j.out).mono ?_
   rintro e r ⟨rfl, I⟩
   have P := O.below I
   have F := P.put (from_ K I) (by omega) (.bool (decide (x + y < 0))) (.slice G (limbs (m + n)).length H)
   have Q := F.keep (by simp) (E.below I)
   obtain ⟨d, J⟩ := hid2 Q F
   obtain ⟨q0, q1, f0, f1, _⟩ := P
   clear E Q F O M D K
   go_wp2
   refine bodyPost_ret (res_int rfl _ (w.heap.size + 2) rfl J.out.c0 J.out.c1) rfl ?_
   exact ⟨_, rfl, ⟨_, rfl, d.out⟩, J.out.bel⟩
 · obtain ⟨s, R⟩ : ∃ s, s = decide (x < 0) := ⟨_, rfl⟩
   obtain ⟨t, g⟩ : ∃ t, t = decide (y < 0) := ⟨_, rfl⟩
   rw [← R, ← g] at hs ⊢
   rcases Nat.lt_or_ge m n with hmn | hmn
   · have W : (t && decide (0 < (limbs (n - m)).length)) = decide (x + y < 0) ∧ (x + y).natAbs = n - m := by
      have h1 : 0 < (limbs (n - m)).length := len_pos.2 (by omega)
      rw [decide_eq_true h1, Bool.and_true]
      by_cases hx : x < 0
      · have L : ¬ y < 0 := fun L => hs (by rw [R, g, decide_eq_true hx, decide_eq_true L])
        exact ⟨by rw [g, decide_eq_false L, decide_eq_false (by omega)], by omega⟩
      · have L : y < 0 := Decidable.byContradiction fun L => hs (by rw [R, g, decide_eq_false hx, decide_eq_false L])
        exact ⟨by rw [g, decide_eq_true L, decide_eq_true (by omega)], by omega⟩
     unfold IsZ
     rw [W.2]
     have j := hid W.1
     have hk : (limbs (n - m)).length ≤ 900000000000 := Nat.le_trans (len_mono (Nat.sub_le _ _)) (by omega)
     clear R g W hm hn
     rcases (show (s = true ∧ t = false) ∨ (s = false ∧ t = true) by cases s <;> cases t <;> simp_all) with ⟨rfl, rfl⟩ | ⟨rfl, rfl⟩
     all_goals
      clear hs
      have bx := fun (s t : Bool) => boxes3 w (.bool s) (.slice A (limbs m).length ca) (.bool t) (.slice B (limbs n).length cb) (.bool false) (.slice none 0 0) 35
      first
      | obtain ⟨X, c, S, D⟩ := bx true false
        go_enter Tryz.func179, Tryz.ntmps179
        obtain ⟨M, U, _, _, _⟩ := X
        obtain ⟨N, V, _, _, _⟩ := c
        go_wp2_with fail
        refine (sub_less (h.below D) (i.below D) (by omega) (by omega) hmn).mono ?_
        rintro e o ⟨rfl, C⟩
        have U := keepC C U
        have N := keepC C N
        have V := keepC C V
        have O := S.below C
        have K := from_ D C
        clear M S
        go_wp2_with fail
        refine (sub_good (i.below K) (h.below K) (by omega) (by omega) (by omega)).mono ?_
        rintro e r ⟨v, rfl, ⟨G, H, rfl, T⟩, I⟩
        have E : IsU r _ (.slice G (limbs (n - m)).length H) (limbs (n - m)) := ⟨G, H, rfl, T⟩
        have N := keepC I N
        have P := O.below I
        have u := from_ K I
        clear T V U O
        go_wp2_with fail
        refine (made_at E j.out).mono ?_
        rintro e w3 ⟨rfl, q⟩
        have z := P.below q
        have F := z.put (from_ u q) (by omega) (.bool (decide (x + y < 0))) (.slice G (limbs (n - m)).length H)
        have Q := F.keep (by have := C.size; simp at this; omega) (E.below q)
        obtain ⟨d, J⟩ := hid2 Q F
        obtain ⟨q0, q1, f0, f1, _⟩ := z
        clear E Q F P D K u
        go_wp2
        refine bodyPost_ret (res_int rfl _ (w.heap.size + 2) rfl J.out.c0 J.out.c1) rfl ?_
        exact ⟨_, rfl, ⟨_, rfl, d.out⟩, J.out.bel⟩
      | obtain ⟨X, c, S, D⟩ := bx false true
        go_enter Tryz.func179, Tryz.ntmps179
        obtain ⟨M, U, _, _, _⟩ := X
        obtain ⟨N, V, _, _, _⟩ := c
        go_wp2_with fail
        refine (sub_less (h.below D) (i.below D) (by omega) (by omega) hmn).mono ?_
        rintro e o ⟨rfl, C⟩
        have U := keepC C U
        have N := keepC C N
        have V := keepC C V
        have O := S.below C
        have K := from_ D C
        clear M S
        go_wp2_with fail
        refine (sub_good (i.below K) (h.below K) (by omega) (by omega) (by omega)).mono ?_
        rintro e r ⟨v, rfl, ⟨G, H, rfl, T⟩, I⟩
        have E : IsU r _ (.slice G (limbs (n - m)).length H) (limbs (n - m)) := ⟨G, H, rfl, T⟩
        have N := keepC I N
        have P := O.below I
        have u := from_ K I
        clear T V U O
        go_wp2_with fail
        refine (made_at E j.out).mono ?_
        rintro e w3 ⟨rfl, q⟩
        have z := P.below q
        have F := z.put (from_ u q) (by omega) (.bool (decide (x + y < 0))) (.slice G (limbs (n - m)).length H)
        have Q := F.keep (by have := C.size; simp at this; omega) (E.below q)
        obtain ⟨d, J⟩ := hid2 Q F
        obtain ⟨q0, q1, f0, f1, _⟩ := z
        clear E Q F P D K u
        go_wp2
        refine bodyPost_ret (res_int rfl _ (w.heap.size + 2) rfl J.out.c0 J.out.c1) rfl ?_
        exact ⟨_, rfl, ⟨_, rfl, d.out⟩, J.out.bel⟩
   · have W : (s && decide (0 < (limbs (m - n)).length)) = decide (x + y < 0) ∧ (x + y).natAbs = m - n := by
      by_cases hx : x < 0
      · have L : ¬ y < 0 := fun L => hs (by rw [R, g, decide_eq_true hx, decide_eq_true L])
        refine ⟨?_, by omega⟩
        rw [R, decide_eq_true hx, Bool.true_and]
        exact decide_eq_decide.2 (by rw [len_pos]; omega)
      · have L : y < 0 := Decidable.byContradiction fun L => hs (by rw [R, g, decide_eq_false hx, decide_eq_false L])
        exact ⟨by rw [R, decide_eq_false hx, decide_eq_false (show ¬ x + y < 0 by omega)]; rfl, by omega⟩
     unfold IsZ
     rw [W.2]
     have j := hid W.1
     clear R g W hm hn
     rcases (show (s = true ∧ t = false) ∨ (s = false ∧ t = true) by cases s <;> cases t <;> simp_all) with ⟨rfl, rfl⟩ | ⟨rfl, rfl⟩
     all_goals
      clear hs
      have bx := fun (s t : Bool) => boxes3 w (.bool s) (.slice A (limbs m).length ca) (.bool t) (.slice B (limbs n).length cb) (.bool false) (.slice none 0 0) 35
      first
      | obtain ⟨X, c, S, D⟩ := bx true false
        go_enter Tryz.func179, Tryz.ntmps179
        obtain ⟨M, U, _, _, _⟩ := X
        obtain ⟨N, V, _, _, _⟩ := c
        go_wp2_with fail
        refine (sub_good (h.below D) (i.below D) (by omega) (by omega) hmn).mono ?_
        rintro e o ⟨v, rfl, ⟨G, H, rfl, T⟩, C⟩
        have E : IsU o _ (.slice G (limbs (m - n)).length H) (limbs (m - n)) := ⟨G, H, rfl, T⟩
        have M := keepC C M
        have O := S.below C
        have K := from_ D C
        clear T N V U S
        go_wp2_with fail
        refine (made_at E j.out).mono ?_
        rintro e r ⟨rfl, I⟩
        have P := O.below I
        have F := P.put (from_ K I) (by omega) (.bool (decide (x + y < 0))) (.slice G (limbs (m - n)).length H)
        have Q := F.keep (by simp) (E.below I)
        obtain ⟨d, J⟩ := hid2 Q F
        obtain ⟨q0, q1, f0, f1, _⟩ := P
        clear E Q F O M D K
        go_wp2
        refine bodyPost_ret (res_int rfl _ (w.heap.size + 2) rfl J.out.c0 J.out.c1) rfl ?_
        exact ⟨_, rfl, ⟨_, rfl, d.out⟩, J.out.bel⟩
      | obtain ⟨X, c, S, D⟩ := bx false true
        go_enter Tryz.func179, Tryz.ntmps179
        obtain ⟨M, U, _, _, _⟩ := X
        obtain ⟨N, V, _, _, _⟩ := c
        go_wp2_with fail
        refine (sub_good (h.below D) (i.below D) (by omega) (by omega) hmn).mono ?_
        rintro e o ⟨v, rfl, ⟨G, H, rfl, T⟩, C⟩
        have E : IsU o _ (.slice G (limbs (m - n)).length H) (limbs (m - n)) := ⟨G, H, rfl, T⟩
        have M := keepC C M
        have O := S.below C
        have K := from_ D C
        clear T N V U S
        go_wp2_with fail
        refine (made_at E j.out).mono ?_
        rintro e r ⟨rfl, I⟩
        have P := O.below I
        have F := P.put (from_ K I) (by omega) (.bool (decide (x + y < 0))) (.slice G (limbs (m - n)).length H)
        have Q := F.keep (by simp) (E.below I)
        obtain ⟨d, J⟩ := hid2 Q F
        obtain ⟨q0, q1, f0, f1, _⟩ := P
        clear E Q F O M D K
        go_wp2
        refine bodyPost_ret (res_int rfl _ (w.heap.size + 2) rfl J.out.c0 J.out.c1) rfl ?_
        exact ⟨_, rfl, ⟨_, rfl, d.out⟩, J.out.bel⟩
end Go.Proofs.YtdncgncijbnjpaaGreat
