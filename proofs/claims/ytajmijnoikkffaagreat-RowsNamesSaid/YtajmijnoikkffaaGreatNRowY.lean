/-
  slices.Insert at lists of rows: one row into a list of one's own. No conditions but bounds on lengths.
  Lists of rows: an echelon form in memory. No conditions.
  Lists of rows: across. No conditions but bounds on lengths.
  Lists of rows: put. No conditions but bounds on lengths.
  Lists of rows: formed, Echelon, Rank, Reduce, In. No conditions but bounds on lengths.
  Lists of rows: rows and lists that are written out; what rows of words are, as numbers. No conditions.
  Lists of rows: whether a form has a pivot at a place; the document's Same. No conditions but bounds on lengths.
  Lists of rows: what a kernel is, place by place. No conditions.
  facetroomlaw18.gives and alive. No conditions but bounds on lengths.
  Lists of rows: Reduce, In. No conditions but bounds on lengths.
-/
import Derived.Shelf.Spec.SlicesInsert
import Derived.Lib.AppendZerosOnto
import Derived.Lib.Overlaps
import Derived.Deep.Upon
import Derived.Deep.RegionHeld3
import Derived.RangeFuncNested
import Derived.RangeFuncBound
import Derived.RangeFuncCalls
import Derived.RangeFuncLeaves
import Derived.RangeFuncBox
import Derived.Test.YtajmijnoikkffaaGreatNRowZ
import Derived.Test.YtajmijnoikkffaaGreatNVecM
namespace Go.Proofs.YtajmijnoikkffaaGreat
open Go.RowKit Go.Lib Go.Shelf
set_option linter.unusedVariables false
set_option linter.unusedSimpArgs false

theorem infoRV : (Tryz.prog.info? 23).map (fun i => (i.zero, i.size, i.bytes)) = some (some (.slice none 0 0), 1, 24) := by kernel_rfl
theorem obj_setCell {w : World} {g o : Nat} {v : Value} {cur : Array Value} {e : TypeId} {fz : Nat × Nat} (h : w.heap[g]? = some (.cells cur e fz)) : ∃ cur' : Array Value, (w.setCell ⟨g, o, none⟩ v).heap[g]? = some (.cells cur' e fz) ∧ cur'.size = cur.size := by
  refine ⟨cur.setIfInBounds o v, ?_, by simp⟩
  simp [World.setCell, Array.getElem?_modify, h]
theorem obj_setCells {g : Nat} {e : TypeId} {fz : Nat × Nat} : ∀ (vs : List Value) (o : Nat) (w : World) (cur : Array Value), w.heap[g]? = some (.cells cur e fz) → ∃ cur' : Array Value, (w.setCells g o vs).heap[g]? = some (.cells cur' e fz) ∧ cur'.size = cur.size := by
  intro vs
  induction vs with
  | nil => intro o w cur h; exact ⟨cur, h, rfl⟩
  | cons v r ih =>
    intro o w cur h
    obtain ⟨c1, h1, e1⟩ := obj_setCell (o := o) (v := v) h
    obtain ⟨c2, h2, e2⟩ := ih (o + 1) _ c1 h1
    exact ⟨c2, h2, by rw [e2, e1]⟩
theorem size_setCells9 (g : Nat) : ∀ (vs : List Value) (o : Nat) (w : World), (w.setCells g o vs).heap.size = w.heap.size := by
  intro vs
  induction vs with
  | nil => intro o w; rfl
  | cons v r ih => intro o w; rw [World.setCells, ih]; simp [World.setCell]
theorem os_setCells9 (g : Nat) : ∀ (vs : List Value) (o : Nat) (w : World), (w.setCells g o vs).os = w.os ∧ (w.setCells g o vs).tape = w.tape ∧ (w.setCells g o vs).output = w.output := by
  intro vs
  induction vs with
  | nil => intro o w; exact ⟨rfl, rfl, rfl⟩
  | cons v r ih => intro o w; rw [World.setCells]; exact ih _ _
theorem cell_obj {w : World} {g j : Nat} {cur : Array Value} {e : TypeId} {fz : Nat × Nat} (h : w.heap[g]? = some (.cells cur e fz)) : w.cell? ⟨g, j, none⟩ = cur[j]? := by
  simp [World.cell?, h]
theorem own_of_cells {W : World} {base g cap n : Nat} {e : TypeId} {xs : List Value} (h : ∃ cur : Array Value, W.heap[g]? = some (.cells cur e (0, 0)) ∧ cur.size = cap) (hl : xs.length = n) (hc : ∀ (j : Nat) (v : Value), xs[j]? = some v → W.cell? ⟨g, j, none⟩ = some v) (hb : base ≤ g) (hn : n ≤ cap) (hm : cap ≤ maxLen) :
    W.ownsRow base e 1 (.slice (some ⟨g, 0, none⟩) n cap) n xs := by
  obtain ⟨cur, h1, h2⟩ := h
  refine ⟨by omega, .inr ⟨g, cap, cur, rfl, hb, h1, hn, hm, by omega, ?_⟩⟩
  apply List.ext_getElem?
  intro j
  rw [List.getElem?_take, Nat.mul_one]
  split
  · rename_i hj
    have h3 := hc j xs[j] (List.getElem?_eq_getElem (by omega))
    rw [cell_obj h1] at h3
    rw [List.getElem?_eq_getElem (l := xs) (by omega), Array.getElem?_toList]
    exact h3
  · rw [List.getElem?_eq_none (by omega)]

theorem ins_get {xs : List Value} {a : Value} {k : Nat} (hk : k ≤ xs.length) (j : Nat) : (xs.take k ++ a :: xs.drop k)[j]? = if j < k then xs[j]? else if j = k then some a else xs[j - 1]? := by
  split
  · rename_i h
    rw [List.getElem?_append_left (by rw [List.length_take]; omega), List.getElem?_take, if_pos h]
  · rename_i h
    rw [List.getElem?_append_right (by rw [List.length_take]; omega), List.length_take, Nat.min_eq_left hk]
    split
    · rename_i h2
      subst h2
      simp
    · rename_i h2
      obtain ⟨i, hi⟩ : ∃ i, j - k = i + 1 := ⟨j - k - 1, by omega⟩
      rw [hi, List.getElem?_cons_succ, List.getElem?_drop]
      congr 1
      omega

set_option maxRecDepth 100000 in
set_option maxHeartbeats 2000000 in
theorem vinsert_shift {w : World} {base k vb g cap : Nat} {a : Value} {xs : List Value} {cur : Array Value} (hb : base ≤ g) (hgo : w.heap[g]? = some (.cells cur 23 (0, 0))) (hcs : cur.size = cap) (hcap : cap ≤ maxLen) (hcur : ∀ (j : Nat) (v : Value), xs[j]? = some v → cur[j]? = some v) (hk : k < xs.length) (hroom : xs.length + 1 ≤ cap) (hl : xs.length ≤ 1000) (hvb : w.heap[vb]? = some (.cells #[a] 23 (0, 0))) (hne : vb ≠ g) (h1 : ∀ u ∈ xs, u.oneCell' = true) (ha : a.oneCell' = true) :
    Calls Tryz.prog 41 #[.slice (some ⟨g, 0, none⟩) xs.length cap, .int .i64 (k : Int), .slice (some ⟨vb, 0, none⟩) 1 1] w fun e w' =>
      e = .returned (.slice (some ⟨g, 0, none⟩) (xs.length + 1) cap) ∧ w' = (w.drew.setCells g (k + 1) (xs.drop k)).setCells g k [a] := by
  obtain ⟨i0, hi, hz0, hz1, hz2⟩ := info_parts infoRV
  have hsz : (Tryz.prog.info? 23).map (·.size) = some 1 := by rw [hi]; simp [hz1]
  have u1 := Tryz.underlying25
  have hxcell : ∀ (j : Nat) (v : Value), xs[j]? = some v → w.cell? ⟨g, j, none⟩ = some v := fun j v h => by rw [cell_obj hgo]; exact hcur j v h
  have hsp : ∀ j, j < xs.length + 1 → (w.cell? ⟨g, j, none⟩).isSome = true := fun j h => by rw [cell_obj hgo, Array.getElem?_eq_getElem (by omega)]; rfl
  have hfz : ∀ j, w.frozen? ⟨g, j, none⟩ = false := fun j => by simp [World.frozen?, hgo]
  have hav : w.cell? ⟨vb, 0, none⟩ = some a := by rw [cell_obj hvb]; rfl
  have hov : ∀ lb cb, (callFunc 56 #[.slice (some ⟨vb, 0, none⟩) 1 1, .slice (some ⟨g, k + 1, none⟩) lb cb]).run Tryz.prog w = .ok (.value (.bool false)) w := fun lb cb => by
    rw [run_callFunc_extern Tryz.func56 (by kernel_rfl) (by kernel_rfl) (by kernel_rfl) (e := Extern.SlicesOverlaps.overlaps #[25, 25] #[4]) (by kernel_rfl),
      Lib.run_overlaps_apart w 25 4 23 u1 1 (fun w => by simp [Go.sizeOf, typeInfo, hi, hz1]) ⟨vb, 0, none⟩ ⟨g, k + 1, none⟩ 1 1 lb cb hne 23 23 1 cap (by simp [World.shape?, hvb]) (by simp [World.shape?, hgo, hcs]) (by omega) (by simp [World.frozen?, hvb]) (by simp [World.frozen?, hvb])]
    rfl
  have mixed : Tryz.prog.follows .mixedOrders = true := by kernel_rfl
  have hdl : (xs.drop k).length = xs.length - k := List.length_drop
  generalize hn : xs.length = n at *
  have hw1 : IntKind.i64.wrap ((k : Int) + 1) = (k : Int) + 1 := by rw [IntKind.wrap_i64]; omega
  have hw2 : IntKind.i64.wrap ((n : Int) + 1) = (n : Int) + 1 := by rw [IntKind.wrap_i64]; omega
  have q1 : ((k : Int) == (n : Int)) = false := beq_eq_false_iff_ne.2 (by omega)
  have q2 : decide (cap < n + 1) = false := decide_eq_false (by omega)
  have q3 : decide ((cap : Int) < (n : Int) + 1) = false := decide_eq_false (by omega)
  have q4 : (0 : Int) ≤ (k : Int) + 1 := by omega
  have q5 : ((k : Int) + 1).toNat = k + 1 := by omega
  have q6 : ((n : Int) + 1).toNat = n + 1 := by omega
  have q7 : (0 : Int) ≤ (n : Int) + 1 := by omega
  have q8 : (k : Int) ≤ (n : Int) + 1 := by omega
  have q9 : ¬ (cap = k + 1) := by omega
  have q10 : ¬ (cap = k) := by omega
  have q11 : (n : Int) + 1 ≤ (cap : Int) := by omega
  have q12 : (k : Int) ≤ (n : Int) := by omega
  have q13 : (k : Int) + 1 ≤ (n : Int) + 1 := by omega
  have hcp1 : ∀ ty dc sc, (Builtin.copy_ #[25, 25] ty #[.slice (some ⟨g, k + 1, none⟩) (n - k) dc, .slice (some ⟨g, k, none⟩) (n + 1 - k) sc]).run Tryz.prog w.drew = .ok (goInt (xs.drop k).length) (w.drew.setCells g (k + 1) (xs.drop k)) := fun ty dc sc =>
    run_copy_cells w.drew _ _ ty 23 g (k + 1) (n - k) dc ⟨g, k, none⟩ (n + 1 - k) sc (xs.drop k) u1 hsz (by rw [hdl]; simp only [Nat.min_def]; split <;> omega)
      (fun j v hj => by rw [Addr.add_lit]; exact hxcell (k + j) v (by rwa [List.getElem?_drop] at hj))
      (fun j hj => hsp _ (by omega)) (fun j hj => hfz _) (fun v hv => h1 v (List.mem_of_mem_drop hv))
  obtain ⟨W1, hW1⟩ : ∃ W1, W1 = w.drew.setCells g (k + 1) (xs.drop k) := ⟨_, rfl⟩
  have hsp1 : ∀ j, j < n + 1 → (W1.cell? ⟨g, j, none⟩).isSome = true := fun j hj => by
    rw [hW1]
    exact isSome_setCells g (xs.drop k) (k + 1) w.drew (fun i hi => hsp _ (by rw [hdl] at hi; omega)) _ (hsp j hj)
  have hcp2 : ∀ (W : World), (∀ x, W.cell? x = W1.cell? x) → (∀ x, W.frozen? x = W1.frozen? x) → ∀ ty dc, (Builtin.copy_ #[25, 25] ty #[.slice (some ⟨g, k, none⟩) (n + 1 - k) dc, .slice (some ⟨vb, 0, none⟩) 1 1]).run Tryz.prog W = .ok (goInt ([a] : List Value).length) (W.setCells g k [a]) := fun W hWc hWf ty dc =>
    run_copy_cells W _ _ ty 23 g k (n + 1 - k) dc ⟨vb, 0, none⟩ 1 1 [a] u1 hsz (by simp only [List.length_singleton, Nat.min_def]; split <;> omega)
      (fun j v hj => by
        obtain rfl : j = 0 := by
          cases j with
          | zero => rfl
          | succ j => simp at hj
        rw [Addr.add_lit, hWc, hW1, World.cell?_setCells_out g _ _ _ _ (fun h _ => absurd h hne)]
        simp only [List.getElem?_cons_zero, Option.some.injEq] at hj
        subst hj
        exact hav)
      (fun j hj => by rw [List.length_singleton] at hj; rw [hWc]; exact hsp1 _ (by omega)) (fun j hj => by rw [hWf, hW1, World.frozen?_setCells]; exact hfz _) (fun v hv => by simp only [List.mem_singleton] at hv; subst hv; exact ha)
  rw [← hW1] at hcp1
  have HW1 := Lib.hid hW1
  clear hcur hgo hvb hfz hsp hsp1 h1 ha hdl hn hW1 hxcell hav
  go_enter Tryz.func41, Tryz.ntmps41
  go_wp2_with (simp only [hov])
  go_region_law_o (refine step_copy_runI rfl _ _ 25 25 rfl _ _ (by simp [Act.eval, Act.put]) (by simp [Act.eval, Act.put]) (hcp1 _ _ _) ?_)
  go_wp2_with (at_builtin; refine wpList_copy_runI _ rfl _ _ 25 25 rfl _ _ rfl rfl (hcp2 _ (fun _ => rfl) (fun _ => rfl) _ _) ?_)
  go_ret
  first | exact ⟨rfl, rfl⟩ | exact ⟨rfl, by rw [HW1.out]⟩


/-- The zero value of a row's cell. -/
abbrev zeroRV : Array Value := (Value.slice none 0 0).cells
set_option maxRecDepth 100000 in
set_option maxHeartbeats 2000000 in
theorem vinsert_grow {w : World} {k vb g cap : Nat} {a : Value} {xs : List Value} {cur : Array Value} (hgo : w.heap[g]? = some (.cells cur 23 (0, 0))) (hcs : cur.size = cap) (hcap : cap ≤ maxLen) (hcur : ∀ (j : Nat) (v : Value), xs[j]? = some v → cur[j]? = some v) (hk : k < xs.length) (hnc : xs.length ≤ cap) (hroom : cap < xs.length + 1) (hl : xs.length ≤ 1000) (hvb : w.heap[vb]? = some (.cells #[a] 23 (0, 0))) (h1 : ∀ u ∈ xs, u.oneCell' = true) (ha : a.oneCell' = true) :
    Calls Tryz.prog 41 #[.slice (some ⟨g, 0, none⟩) xs.length cap, .int .i64 (k : Int), .slice (some ⟨vb, 0, none⟩) 1 1] w fun e w' =>
      e = .returned (.slice (some ⟨w.heap.size, 0, none⟩) (xs.length + 1) (grownCap w (xs.length + 1) cap 23)) ∧
      w' = (((w.alloc (.cells ((xs.take k).toArray ++ Builtin.zeroCells zeroRV (xs.length + 1 - k) ++ Builtin.zeroCells zeroRV (grownCap w (xs.length + 1) cap 23 - (xs.length + 1))) 23)).drew.setCells w.heap.size k [a]).drew).setCells w.heap.size (k + 1) (xs.drop k) := by
  obtain ⟨i0, hi, hz0, hz1, hz2⟩ := info_parts infoRV
  have hsz : (Tryz.prog.info? 23).map (·.size) = some 1 := by rw [hi]; simp [hz1]
  have u1 := Tryz.underlying25
  have u3 := Tryz.underlying3
  have mixed : Tryz.prog.follows .mixedOrders = true := by kernel_rfl
  have hxcell : ∀ (j : Nat) (v : Value), xs[j]? = some v → w.cell? ⟨g, j, none⟩ = some v := fun j v h => by rw [cell_obj hgo]; exact hcur j v h
  have hav : w.cell? ⟨vb, 0, none⟩ = some a := by rw [cell_obj hvb]; rfl
  have hbw : g < w.heap.size := lt_of_cell (hxcell 0 _ (List.getElem?_eq_getElem (by omega)))
  have hvw : vb < w.heap.size := lt_of_cell hav
  have hdl : (xs.drop k).length = xs.length - k := List.length_drop
  have htl : (xs.take k).length = k := by rw [List.length_take]; omega
  generalize hn : xs.length = n at *
  have hw1 : IntKind.i64.wrap ((k : Int) + 1) = (k : Int) + 1 := by rw [IntKind.wrap_i64]; omega
  have hw2 : IntKind.i64.wrap ((n : Int) + 1) = (n : Int) + 1 := by rw [IntKind.wrap_i64]; omega
  have q1 : ((k : Int) == (n : Int)) = false := beq_eq_false_iff_ne.2 (by omega)
  have q2 : decide (cap < n + 1) = true := decide_eq_true (by omega)
  have q3 : decide ((cap : Int) < (n : Int) + 1) = true := decide_eq_true (by omega)
  have q4 : (0 : Int) ≤ (k : Int) + 1 := by omega
  have q5 : ((k : Int) + 1).toNat = k + 1 := by omega
  have q6 : ((n : Int) + 1).toNat = n + 1 := by omega
  have q7 : (0 : Int) ≤ (n : Int) + 1 := by omega
  have q8 : (k : Int) ≤ (n : Int) + 1 := by omega
  have q12 : (k : Int) ≤ (n : Int) := by omega
  have q13 : (k : Int) + 1 ≤ (n : Int) + 1 := by omega
  have q14 : (n : Int) + 1 - (k : Int) = ((n + 1 - k : Nat) : Int) := by omega
  have q15 : k + (n + 1 - k) = n + 1 := by omega
  have hold : (Builtin.firstCells i0.size k (.slice (some ⟨g, 0, none⟩) k cap)).run Tryz.prog w.drew = .ok (xs.take k).toArray w.drew := by
    rw [hz1]
    exact run_firstCells_some w.drew 1 k ⟨g, 0, none⟩ k cap (xs.take k) (by omega) (fun j v hj => by
      rw [Addr.add_lit, Nat.zero_add]
      rw [List.getElem?_take] at hj
      split at hj
      · exact hxcell j v hj
      · cases hj)
  have hrz : ∀ ty, (Builtin.append_ #[25, 3] ty #[.slice (some ⟨g, 0, none⟩) k cap, .int .i64 ((n + 1 - k : Nat) : Int)]).run Tryz.prog w =
      .ok (.slice (some ⟨w.heap.size, 0, none⟩) (n + 1) (grownCap w (n + 1) cap 23)) (w.drew.alloc (.cells ((xs.take k).toArray ++ Builtin.zeroCells zeroRV (n + 1 - k) ++ Builtin.zeroCells zeroRV (grownCap w (n + 1) cap 23 - (n + 1))) 23)) := fun ty => by
    have h := Lib.run_append_grow_zeros w 25 3 ty 23 i0 _ .i64 .i64 u1 u3 hi hz0 (some ⟨g, 0, none⟩) k cap (xs.take k) hold (n + 1 - k) (by omega) (by omega) (by omega) (by omega) (by rw [hz2]; omega) (by rw [hz2, q15]; exact growslice_fits hroom (by omega))
    rw [q15] at h
    exact h
  obtain ⟨G, hG⟩ : ∃ G, G = grownCap w (n + 1) cap 23 := ⟨_, rfl⟩
  obtain ⟨ROW, hROW⟩ : ∃ ROW : Array Value, ROW = (xs.take k).toArray ++ Builtin.zeroCells zeroRV (n + 1 - k) ++ Builtin.zeroCells zeroRV (G - (n + 1)) := ⟨_, rfl⟩
  have hGn : n + 1 ≤ G := by rw [hG]; exact grownCap_ge w _ _ _
  rw [← hG] at hrz ⊢
  rw [← hROW] at hrz ⊢
  have hRl : n + 1 ≤ ROW.size := by
    rw [hROW]
    simp [Builtin.zeroCells, Value.cells]
    omega
  have hN : ∀ j, j < n + 1 → ((w.drew.alloc (.cells ROW 23)).cell? ⟨w.heap.size, j, none⟩).isSome = true := fun j hj => by
    rw [World.cell?_alloc_at (w := w.drew) ROW _ w.heap.size j rfl, Array.getElem?_eq_getElem (by omega)]; rfl
  have hNf : ∀ j, (w.drew.alloc (.cells ROW 23)).frozen? ⟨w.heap.size, j, none⟩ = false := fun j => World.frozen?_alloc_at (w := w.drew) ROW _ w.heap.size j rfl
  have hOb : ∀ j v, w.cell? ⟨g, j, none⟩ = some v → (w.drew.alloc (.cells ROW 23)).cell? ⟨g, j, none⟩ = some v := fun j v h => by rw [World.cell?_alloc_past (w := w.drew) _ g j hbw]; exact h
  have hOv : (w.drew.alloc (.cells ROW 23)).cell? ⟨vb, 0, none⟩ = some a := by rw [World.cell?_alloc_past (w := w.drew) _ vb 0 hvw]; exact hav
  have hcpA : ∀ (W : World), (∀ x, W.cell? x = (w.drew.alloc (.cells ROW 23)).cell? x) → (∀ x, W.frozen? x = (w.drew.alloc (.cells ROW 23)).frozen? x) → ∀ ty dc, (Builtin.copy_ #[25, 25] ty #[.slice (some ⟨w.heap.size, k, none⟩) (n + 1 - k) dc, .slice (some ⟨vb, 0, none⟩) 1 1]).run Tryz.prog W = .ok (goInt ([a] : List Value).length) (W.setCells w.heap.size k [a]) := fun W hWc hWf ty dc =>
    run_copy_cells W _ _ ty 23 w.heap.size k (n + 1 - k) dc ⟨vb, 0, none⟩ 1 1 [a] u1 hsz (by simp only [List.length_singleton, Nat.min_def]; split <;> omega)
      (fun j v hj => by
        obtain rfl : j = 0 := by
          cases j with
          | zero => rfl
          | succ j => simp at hj
        rw [Addr.add_lit, hWc]
        simp only [List.getElem?_cons_zero, Option.some.injEq] at hj
        subst hj
        exact hOv)
      (fun j hj => by rw [List.length_singleton] at hj; rw [hWc]; exact hN _ (by omega)) (fun j hj => by rw [hWf]; exact hNf _) (fun v hv => by simp only [List.mem_singleton] at hv; subst hv; exact ha)
  have hbN : g ≠ w.heap.size := by omega
  have hcpB : ∀ (W : World), (∀ x, W.cell? x = ((w.drew.alloc (.cells ROW 23)).setCells w.heap.size k [a]).cell? x) → (∀ x, W.frozen? x = ((w.drew.alloc (.cells ROW 23)).setCells w.heap.size k [a]).frozen? x) → ∀ ty dc sc, (Builtin.copy_ #[25, 25] ty #[.slice (some ⟨w.heap.size, k + 1, none⟩) (n - k) dc, .slice (some ⟨g, k, none⟩) (n - k) sc]).run Tryz.prog W = .ok (goInt (xs.drop k).length) (W.setCells w.heap.size (k + 1) (xs.drop k)) := fun W hWc hWf ty dc sc =>
    run_copy_cells W _ _ ty 23 w.heap.size (k + 1) (n - k) dc ⟨g, k, none⟩ (n - k) sc (xs.drop k) u1 hsz (by rw [hdl]; simp only [Nat.min_def]; split <;> omega)
      (fun j v hj => by
        rw [Addr.add_lit, hWc, World.cell?_setCells_out _ _ _ _ _ (fun h _ => absurd h hbN)]
        exact hOb _ v (hxcell (k + j) v (by rwa [List.getElem?_drop] at hj)))
      (fun j hj => by rw [hdl] at hj; rw [hWc]; exact isSome_setCells w.heap.size [a] k (w.drew.alloc (.cells ROW 23)) (fun t ht => by rw [List.length_singleton] at ht; exact hN _ (by omega)) _ (hN _ (by omega)))
      (fun j hj => by rw [hWf, World.frozen?_setCells]; exact hNf _) (fun v hv => h1 v (List.mem_of_mem_drop hv))
  have hG63 : G ≤ 9223372036854775807 := by
    have := grownCap_le_maxLen w (n + 1) cap 23 (by unfold maxLen; omega)
    rw [← hG] at this
    unfold maxLen at this
    omega
  have hGi : ¬ (G = k) := by omega
  have hGim : ¬ (G = k + 1) := by omega
  have hci : ¬ (cap = k) := by omega
  have hE1 : ∀ x, ((w.alloc (.cells ROW 23)).drew).cell? x = (w.drew.alloc (.cells ROW 23)).cell? x := fun x => rfl
  have hE2 : ∀ x, ((w.alloc (.cells ROW 23)).drew).frozen? x = (w.drew.alloc (.cells ROW 23)).frozen? x := fun x => rfl
  have hF1 : ∀ x, (((w.alloc (.cells ROW 23)).drew.setCells w.heap.size k [a]).drew).cell? x = ((w.drew.alloc (.cells ROW 23)).setCells w.heap.size k [a]).cell? x := fun x => rfl
  have hF2 : ∀ x, (((w.alloc (.cells ROW 23)).drew.setCells w.heap.size k [a]).drew).frozen? x = ((w.drew.alloc (.cells ROW 23)).setCells w.heap.size k [a]).frozen? x := fun x => rfl
  clear q15 hold hROW hG hRl hcur hgo hvb hxcell hav hN hNf hOb hOv h1 ha hdl htl hn
  go_enter Tryz.func41, Tryz.ntmps41
  go_wp2_with (first
    | (at_builtin; refine Lib.wpList_append_run _ rfl _ _ _ _ rfl _ _ rfl rfl _ _ (hrz _) ?_)
    | (at_builtin; refine wpList_copy_runI _ rfl _ _ 25 25 rfl _ _ rfl rfl (hcpA _ hE1 hE2 _ _) ?_))
  go_region_law_o (refine step_copy_runI rfl _ _ 25 25 rfl (.slice (some ⟨w.heap.size, k + 1, none⟩) (n - k) (G - (k + 1))) (.slice (some ⟨g, k, none⟩) (n - k) (cap - k)) (by simp [Act.eval, Act.put]) (by simp [Act.eval, Act.put]) (hcpB _ hF1 hF2 3 (G - (k + 1)) (cap - k)) ?_)
  go_wp2
  go_ret
  exact ⟨rfl, rfl⟩


set_option maxRecDepth 100000 in
set_option maxHeartbeats 1000000 in
theorem vinsert_end {w : World} {base vb n c : Nat} {A : Option Addr} {a : Value} {xs : List Value} (hown : w.ownsRow base 23 1 (.slice A n c) n xs) (hnc : n ≤ c) (hc : c ≤ 9223372036854775807) (hnil : A = none → n = 0 ∧ c = 0) (hl : n ≤ 1000) (hvb : w.heap[vb]? = some (.cells #[a] 23 (0, 0))) (ha : a.oneCell' = true) (hbase : base ≤ w.heap.size) :
    Calls Tryz.prog 41 #[.slice A n c, .int .i64 (n : Int), .slice (some ⟨vb, 0, none⟩) 1 1] w fun e w' => ∃ v', e = .returned v' ∧ w'.ownsRow base 23 1 v' (n + 1) (xs ++ [a]) ∧ w.grownBy w' (Value.slice A n c).ownBlock ∧ Fresh w (.slice A n c) v' := by
  obtain ⟨i0, hi, hz0, hz1, hz2⟩ := info_parts infoRV
  have hav : ∀ j u, [a][j]? = some u → w.cell? ⟨vb, j, none⟩ = some u := fun j u h => by
    rw [cell_obj hvb]
    cases j with
    | zero => simpa using h
    | succ j => simp at h
  have q1 : ((n : Int) == (n : Int)) = true := by simp
  have q2 : (n : Int) ≤ (n : Int) := Int.le_refl _
  have q3 : (0 : Int) ≤ (n : Int) := by omega
  cases A with
  | none =>
    obtain ⟨rfl, rfl⟩ := hnil rfl
    clear hvb
    go_enter Tryz.func41, Tryz.ntmps41
    go_wp2_with (at_builtin; refine wpList_appF _ rfl _ _ 25 rfl base 23 i0 (.slice none 0 0) 1 24 Tryz.underlying25 hi hz0 hz1 hz2 rfl (by omega) (by omega) _ _ _ rfl hown vb [a] rfl rfl hav (fun u hu => by simp only [List.mem_singleton] at hu; subst hu; exact ha) (by omega) hbase ?_; intro v' wb hown' hgrow hfresh)
    go_ret
    exact ⟨_, rfl, hown', hgrow, hfresh⟩
  | some ad =>
    obtain ⟨g, o, sp⟩ := ad
    obtain ⟨rfl, rfl⟩ : sp = none ∧ o = 0 := by
      rcases hown.2 with ⟨h, _⟩ | ⟨g', cap, cur, h, _⟩
      · cases h
      · injection h with h1 h2 h3
        injection h1 with h1
        injection h1 with h4 h5 h6
        exact ⟨h6, h5⟩
    clear hvb
    go_enter Tryz.func41, Tryz.ntmps41
    go_wp2_with (at_builtin; refine wpList_appF _ rfl _ _ 25 rfl base 23 i0 (.slice none 0 0) 1 24 Tryz.underlying25 hi hz0 hz1 hz2 rfl (by omega) (by omega) _ _ _ rfl hown vb [a] rfl rfl hav (fun u hu => by simp only [List.mem_singleton] at hu; subst hu; exact ha) (by omega) hbase ?_; intro v' wb hown' hgrow hfresh)
    all_goals
      go_ret
      exact ⟨_, rfl, hown', hgrow, hfresh⟩

/-- slices.Insert of one row, at any place. -/
theorem vinsert_any {w : World} {base k vb n c : Nat} {A : Option Addr} {a : Value} {xs : List Value} (hown : w.ownsRow base 23 1 (.slice A n c) n xs) (hk : k ≤ n) (hl : n ≤ 1000) (hvb : w.heap[vb]? = some (.cells #[a] 23 (0, 0))) (hne : (Value.slice A n c).ownBlock ≠ some vb) (h1 : ∀ u ∈ xs, u.oneCell' = true) (ha : a.oneCell' = true) (hbase : base ≤ w.heap.size) :
    Calls Tryz.prog 41 #[.slice A n c, .int .i64 (k : Int), .slice (some ⟨vb, 0, none⟩) 1 1] w fun e w' => ∃ v', e = .returned v' ∧ w'.ownsRow base 23 1 v' (n + 1) (xs.take k ++ a :: xs.drop k) ∧ w.grownBy w' (Value.slice A n c).ownBlock ∧ Fresh w (.slice A n c) v' := by
  have hxl : xs.length = n := by have := hown.1; omega
  by_cases hkn : k = n
  · subst hkn
    have e : xs.take k ++ a :: xs.drop k = xs ++ [a] := by rw [List.take_of_length_le (by omega), List.drop_eq_nil_of_le (by omega)]
    rw [e]
    refine vinsert_end hown ?_ ?_ ?_ hl hvb ha hbase
    · rcases hown.2 with ⟨h, h0⟩ | ⟨g', cap, cur, h, _, _, h4, _⟩
      · omega
      · injection h with _ _ h3; omega
    · rcases hown.2 with ⟨h, h0⟩ | ⟨g', cap, cur, h, _, _, _, h4, _⟩
      · injection h with _ _ h3; omega
      · injection h with _ _ h3; unfold maxLen at h4; omega
    · intro hA
      subst hA
      rcases hown.2 with ⟨h, h0⟩ | ⟨g', cap, cur, h, _⟩
      · injection h with _ _ h3; exact ⟨h0, h3⟩
      · cases h
  · have hown0 := hown
    rcases hown.2 with ⟨_, h0⟩ | ⟨g, cap, cur, hv, hb, hgo, hnc, hcap, hcs, htk⟩
    · omega
    · injection hv with e1 _ e3
      subst e1 e3
      have hcs1 : cur.size = c := by omega
      have hcur : ∀ (j : Nat) (v : Value), xs[j]? = some v → cur[j]? = some v := fun j v h => by
        rw [← htk, Nat.mul_one, List.getElem?_take] at h
        split at h
        · rw [← Array.getElem?_toList]; exact h
        · cases h
      have hkl : k < xs.length := by omega
      have hgl : g < w.heap.size := by
        rcases Nat.lt_or_ge g w.heap.size with h | h
        · exact h
        · rw [Array.getElem?_eq_none h] at hgo; cases hgo
      have hinsl : (xs.take k ++ a :: xs.drop k).length = n + 1 := by
        rw [List.length_append, List.length_cons, List.length_take, List.length_drop]; omega
      by_cases hroom : n + 1 ≤ c
      · have h := vinsert_shift (base := base) hb hgo hcs1 hcap hcur hkl (by omega) (by omega) hvb (fun e => hne (by rw [← e]; rfl)) h1 ha
        rw [hxl] at h
        refine h.mono ?_
        rintro e w' ⟨rfl, rfl⟩
        refine ⟨_, rfl, own_of_cells ?_ hinsl ?_ hb (by omega) hcap, ?_, .inl rfl⟩
        · obtain ⟨c1, g1, s1⟩ := obj_setCells (xs.drop k) (k + 1) w.drew cur hgo
          obtain ⟨c2, g2, s2⟩ := obj_setCells [a] k _ c1 g1
          exact ⟨c2, g2, by omega⟩
        · intro j v hj
          rw [ins_get (by omega)] at hj
          have hsp : ∀ i, i < c → (w.drew.cell? ⟨g, i, none⟩).isSome = true := fun i hi => by
            rw [show w.drew.cell? ⟨g, i, none⟩ = w.cell? ⟨g, i, none⟩ from rfl, cell_obj hgo, Array.getElem?_eq_getElem (by omega)]; rfl
          have hdl : (xs.drop k).length = n - k := by rw [List.length_drop]; omega
          by_cases hjk : j = k
          · subst hjk
            rw [if_neg (by omega), if_pos rfl] at hj
            have := World.cell?_setCells_in g [a] j (w.drew.setCells g (j + 1) (xs.drop j)) (fun i hi => by
              rw [List.length_singleton] at hi
              exact isSome_setCells g _ _ _ (fun t ht => hsp _ (by omega)) _ (hsp _ (by omega))) 0 (by simp)
            simp only [Nat.add_zero] at this
            rw [this]
            simpa using hj
          · rw [World.cell?_setCells_out g [a] k _ _ (fun _ _ => by rw [List.length_singleton]; show j < k ∨ k + 1 ≤ j; omega)]
            by_cases hjl : j < k
            · rw [if_pos hjl] at hj
              rw [World.cell?_setCells_out g _ _ _ _ (fun _ _ => .inl (by show j < k + 1; omega))]
              show w.cell? ⟨g, j, none⟩ = some v
              rw [cell_obj hgo]
              exact hcur j v hj
            · rw [if_neg hjl, if_neg hjk] at hj
              have hjn : j - 1 < xs.length := by
                rcases Nat.lt_or_ge (j - 1) xs.length with h | h
                · exact h
                · rw [List.getElem?_eq_none h] at hj; cases hj
              have := World.cell?_setCells_in g (xs.drop k) (k + 1) w.drew (fun i hi => hsp _ (by omega)) (j - 1 - k) (by omega)
              rw [show k + 1 + (j - 1 - k) = j by omega] at this
              rw [this, List.getElem_drop, ← hj, List.getElem?_eq_getElem hjn]
              congr 2
              omega
        · obtain ⟨o1, o2, o3⟩ := os_setCells9 g [a] k (w.drew.setCells g (k + 1) (xs.drop k))
          obtain ⟨p1, p2, p3⟩ := os_setCells9 g (xs.drop k) (k + 1) w.drew
          refine ⟨o1.trans p1, o2.trans p2, o3.trans p3, ?_, fun q hq hqn => ?_⟩
          · rw [size_setCells9, size_setCells9]; exact Nat.le_refl _
          · have hqg : q ≠ g := fun e => hqn (by rw [e]; rfl)
            rw [World.heap_setCells_other _ _ _ _ (by rw [size_setCells9]; exact hq) hqg, World.heap_setCells_other w.drew _ _ _ hq hqg]
            rfl
      · have h := vinsert_grow hgo hcs1 hcap hcur hkl (by omega) (by omega) (by omega) hvb h1 ha
        rw [hxl] at h
        refine h.mono ?_
        rintro e w' ⟨rfl, rfl⟩
        have hGn : n + 1 ≤ grownCap w (n + 1) c 23 := grownCap_ge w _ _ _
        have hGm := grownCap_le_maxLen w (n + 1) c 23 (by unfold maxLen; omega)
        obtain ⟨ROW, hROW⟩ : ∃ ROW : Array Value, ROW = (xs.take k).toArray ++ Builtin.zeroCells zeroRV (n + 1 - k) ++ Builtin.zeroCells zeroRV (grownCap w (n + 1) c 23 - (n + 1)) := ⟨_, rfl⟩
        have hRs : ROW.size = grownCap w (n + 1) c 23 := by
          rw [hROW]
          simp [Builtin.zeroCells, Value.cells, List.length_take]
          omega
        have hRg : ∀ j v, j < k → xs[j]? = some v → ROW[j]? = some v := fun j v hj h => by
          rw [hROW, Array.getElem?_append_left (by simp [Builtin.zeroCells, Value.cells, List.length_take]; omega), Array.getElem?_append_left (by simp [List.length_take]; omega)]
          simp [List.getElem?_take, hj, h]
        rw [← hROW]
        generalize grownCap w (n + 1) c 23 = G at *
        clear hROW h
        have hA : (w.alloc (.cells ROW 23)).drew.heap[w.heap.size]? = some (.cells ROW 23 (0, 0)) := heap_alloc_new w _
        refine ⟨_, rfl, own_of_cells ?_ hinsl ?_ hbase hGn hGm, ?_, .inr fun q e => ?_⟩
        · obtain ⟨c1, g1, s1⟩ := obj_setCells [a] k _ ROW hA
          obtain ⟨c2, g2, s2⟩ := obj_setCells (xs.drop k) (k + 1) ((w.alloc (.cells ROW 23)).drew.setCells w.heap.size k [a]).drew c1 g1
          exact ⟨c2, g2, by omega⟩
        · intro j v hj
          rw [ins_get (by omega)] at hj
          have hsp : ∀ i, i < n + 1 → ((w.alloc (.cells ROW 23)).drew.cell? ⟨w.heap.size, i, none⟩).isSome = true := fun i hi => by
            rw [cell_obj hA, Array.getElem?_eq_getElem (by omega)]; rfl
          have hdl : (xs.drop k).length = n - k := by rw [List.length_drop]; omega
          by_cases hjk : k < j
          · rw [if_neg (by omega), if_neg (by omega)] at hj
            have hjn : j - 1 < xs.length := by
              rcases Nat.lt_or_ge (j - 1) xs.length with h | h
              · exact h
              · rw [List.getElem?_eq_none h] at hj; cases hj
            have := World.cell?_setCells_in w.heap.size (xs.drop k) (k + 1) ((w.alloc (.cells ROW 23)).drew.setCells w.heap.size k [a]).drew (fun i hi => isSome_setCells w.heap.size [a] k (w.alloc (.cells ROW 23)).drew (fun t ht => by rw [List.length_singleton] at ht; exact hsp _ (by omega)) _ (hsp _ (by omega))) (j - 1 - k) (by omega)
            rw [show k + 1 + (j - 1 - k) = j by omega] at this
            rw [this, List.getElem_drop, ← hj, List.getElem?_eq_getElem hjn]
            congr 2
            omega
          · rw [World.cell?_setCells_out w.heap.size _ _ _ _ (fun _ _ => .inl (by show j < k + 1; omega))]
            show ((w.alloc (.cells ROW 23)).drew.setCells w.heap.size k [a]).cell? ⟨w.heap.size, j, none⟩ = some v
            by_cases hjl : j < k
            · rw [if_pos hjl] at hj
              rw [World.cell?_setCells_out w.heap.size _ _ _ _ (fun _ _ => .inl (by show j < k; omega)), cell_obj hA]
              exact hRg j v hjl hj
            · obtain rfl : j = k := by omega
              rw [if_neg (by omega), if_pos rfl] at hj
              have := World.cell?_setCells_in w.heap.size [a] j (w.alloc (.cells ROW 23)).drew (fun i hi => by
                rw [List.length_singleton] at hi
                exact hsp _ (by omega)) 0 (by simp)
              simp only [Nat.add_zero] at this
              rw [this]
              simpa using hj
        · obtain ⟨o1, o2, o3⟩ := os_setCells9 w.heap.size (xs.drop k) (k + 1) ((w.alloc (.cells ROW 23)).drew.setCells w.heap.size k [a]).drew
          obtain ⟨p1, p2, p3⟩ := os_setCells9 w.heap.size [a] k (w.alloc (.cells ROW 23)).drew
          have hsz : ((w.alloc (.cells ROW 23)).drew.setCells w.heap.size k [a]).drew.heap.size = w.heap.size + 1 := by
            show ((w.alloc (.cells ROW 23)).drew.setCells w.heap.size k [a]).heap.size = _
            rw [size_setCells9]; simp
          refine ⟨o1.trans p1, o2.trans p2, o3.trans p3, ?_, fun q hq hqn => ?_⟩
          · rw [size_setCells9, hsz]; omega
          · have hqg : q ≠ w.heap.size := by omega
            rw [World.heap_setCells_other _ _ _ _ (by rw [hsz]; omega) hqg]
            show ((w.alloc (.cells ROW 23)).drew.setCells w.heap.size k [a]).heap[q]? = _
            rw [World.heap_setCells_other _ _ _ _ (by simp; omega) hqg]
            exact ((Below.refl w.heap.size w).alloc (Nat.le_refl _) (.cells ROW 23)).block q hq
        · have e9 : w.heap.size = q := by injection e
          omega

end Go.Proofs.YtajmijnoikkffaaGreat

namespace Go.Proofs.YtajmijnoikkffaaGreat
open Go.RowKit
set_option linter.unusedVariables false
set_option linter.unusedSimpArgs false

/-- A zone, as far as there is memory. -/
def Zone.upto (Z : Zone) (B : Nat) : Zone := ⟨fun b => Z.blk b ∧ b < B, False⟩
theorem U64s.bound {w : World} {Z : Zone} {A : Option Addr} {c : Nat} {l : List Nat} (h : U64s w Z A c l) : U64s w (Z.upto w.heap.size) A c l :=
  ⟨h.small, h.cap, h.max, h.nul, fun h0 => by
    obtain ⟨b, o, e, hz, _, hc⟩ := h.row h0
    exact ⟨b, o, e, ⟨hz, lt_of_cell (hc 0 _ (List.getElem?_eq_getElem h0))⟩, fun h => h.elim, hc⟩⟩
theorem VecAt.bound {w : World} {Z : Zone} {A : Option Addr} {c : Nat} {ps : List (Bool × List Nat)} (h : VecAt w Z A c ps) : VecAt w (Z.upto w.heap.size) A c ps :=
  ⟨h.cap, h.max, fun h0 => by
    obtain ⟨b, o, e, hz, hl, _, hc⟩ := h.row h0
    refine ⟨b, o, e, ⟨hz, hl⟩, hl, fun h => h.elim, fun j hj => ?_⟩
    obtain ⟨B, d, c0, c1, hu⟩ := hc j hj
    exact ⟨B, d, c0, c1, hu.bound⟩⟩
theorem RowAt.bound {w : World} {Z : Zone} {A : Option Addr} {c n : Nat} {xs : List Int} (h : RowAt w Z A c n xs) : RowAt w (Z.upto w.heap.size) A c n xs := ⟨h.1, h.2.bound⟩
/-- A row behind a change of memory elsewhere. -/
theorem RowAt.move {w w' : World} {Z Y : Zone} {A : Option Addr} {c n : Nat} {xs : List Int} (h : RowAt w Z A c n xs) (hs : w.heap.size ≤ w'.heap.size) (hk : ∀ b, Z.blk b → b < w.heap.size → w'.heap[b]? = w.heap[b]?) (hz : ∀ b, Z.blk b → b < w.heap.size → Y.blk b) (hy : ¬ Y.soft) : RowAt w' Y A c n xs :=
  (h.bound.keep hs fun b hb hl => hk b hb.1 hl).mono ⟨fun b hb => hz b hb.1 hb.2, fun h => absurd h hy⟩

/-- Anywhere but in a box and a row's block. -/
def offZ (g : Nat) (A : Option Addr) : Zone := ⟨fun k => k ≠ g ∧ ∀ a, A = some a → a.block ≠ k, False⟩

/-- An echelon form in memory: a box with a list of one's own. -/
structure FormAt (w : World) (B g n N : Nat) (F : List (List Int)) (A : Option Addr) (c : Nat) (xs : List Value) : Prop where
  cnt : F.length = N
  box : w.cell? ⟨g, 0, none⟩ = some (.slice A N c)
  soft : w.frozen? ⟨g, 0, none⟩ = false
  ge : B ≤ g
  own : w.ownsRow B 23 1 (.slice A N c) N xs
  ne : ∀ a, A = some a → a.block ≠ g
  len : ∀ r ∈ F, r.length = n
  cells : ∀ j (h : j < F.length), ∃ A' c', xs[j]? = some (.slice A' n c') ∧ RowAt w (offZ g A) A' c' n F[j]

theorem FormAt.below {w w' : World} {B g n N : Nat} {F : List (List Int)} {A : Option Addr} {c : Nat} {xs : List Value} (h : FormAt w B g n N F A c xs) (hb : Below w.heap.size w w') : FormAt w' B g n N F A c xs := by
  have hl := lt_of_cell h.box
  refine ⟨h.cnt, keepC hb h.box, (hb.frozen (p := ⟨g, 0, none⟩) hl).trans h.soft, h.ge, own_below h.own hb, h.ne, h.len, fun j hj => ?_⟩
  obtain ⟨A', c', e, hr⟩ := h.cells j hj
  exact ⟨A', c', e, hr.below hb⟩
theorem FormAt.shape {w : World} {B g n N : Nat} {F : List (List Int)} {A : Option Addr} {c : Nat} {xs : List Value} (h : FormAt w B g n N F A c xs) :
    (A = none ∧ N = 0 ∧ c = 0) ∨ ∃ b cur, A = some ⟨b, 0, none⟩ ∧ B ≤ b ∧ b ≠ g ∧ w.heap[b]? = some (.cells cur 23 (0, 0)) ∧ N ≤ c ∧ c ≤ maxLen ∧ cur.size = c ∧ ∀ (j : Nat) (v : Value), xs[j]? = some v → cur[j]? = some v := by
  rcases h.own.2 with ⟨e, h0⟩ | ⟨b, cap, cur, e, hb, ho, hn, hm, hs, ht⟩
  · injection e with e1 e2 e3
    exact .inl ⟨e1, h0, e3⟩
  · injection e with e1 e2 e3
    subst e3
    refine .inr ⟨b, cur, e1, hb, h.ne _ e1, ho, hn, hm, by omega, fun j v hj => ?_⟩
    rw [← ht, Nat.mul_one, List.getElem?_take] at hj
    split at hj
    · rw [← Array.getElem?_toList]; exact hj
    · cases hj
theorem FormAt.caps {w : World} {B g n N : Nat} {F : List (List Int)} {A : Option Addr} {c : Nat} {xs : List Value} (h : FormAt w B g n N F A c xs) : N ≤ c ∧ c ≤ 9223372036854775807 := by
  rcases h.shape with ⟨_, h1, h2⟩ | ⟨b, cur, _, _, _, _, h1, h2, _⟩
  · omega
  · unfold maxLen at h2; omega
theorem FormAt.mat {w : World} {B g n N : Nat} {F : List (List Int)} {A : Option Addr} {c : Nat} {xs : List Value} (h : FormAt w B g n N F A c xs) : MatN w (offZ g A) A c n F := by
  have hc := h.caps
  have hcnt := h.cnt
  refine ⟨h.len, by rw [List.length_map]; omega, hc.2, fun h0 => ?_⟩
  rw [List.length_map] at h0
  rcases h.shape with ⟨_, h1, h2⟩ | ⟨b, cur, e, _, _, ho, _, _, _, hcur⟩
  · omega
  · refine ⟨b, 0, e, ?_, fun j hj => ?_⟩
    · rcases Nat.lt_or_ge b w.heap.size with g1 | g1
      · exact g1
      · rw [Array.getElem?_eq_none g1] at ho; cases ho
    · rw [List.length_map] at hj
      obtain ⟨A', c', e1, hr⟩ := h.cells j hj
      refine ⟨A', c', ?_, ?_⟩
      · rw [Nat.zero_add, cell_obj ho, hcur j _ e1]
        simp [encR_length, h.len F[j] (List.getElem_mem hj)]
      · simpa using hr.2
/-- A row into a list of one's own. -/
theorem FormAt.set {w : World} {B g n N k b : Nat} {F : List (List Int)} {A A' : Option Addr} {c c' : Nat} {xs : List Value} {Z : Zone} {y : List Int} (h : FormAt w B g n N F A c xs) (hk : k < N) (hr : RowAt w Z A' c' n y) (hz : Z.le (offZ g A)) (hA : A = some ⟨b, 0, none⟩) :
    FormAt (w.setCell ⟨b, k, none⟩ (.slice A' n c')) B g n N (F.set k y) A c (xs.set k (.slice A' n c')) ∧ w.frozen? ⟨b, k, none⟩ = false ∧ B ≤ b := by
  have hcnt := h.cnt
  rcases h.shape with ⟨e, _⟩ | ⟨b', cur, e, hB, hbg, ho, hn, hm, hs, hcur⟩
  · rw [e] at hA; cases hA
  · rw [hA] at e
    injection e with e
    injection e with e _ _
    subst e
    have hxl : xs.length = N := by have := h.own.1; omega
    have hkeep : ∀ q, q ≠ b → (w.setCell ⟨b, k, none⟩ (.slice A' n c')).heap[q]? = w.heap[q]? := fun q hq => Below.heap_setCell _ _ _ _ hq
    have hsz : (w.setCell ⟨b, k, none⟩ (.slice A' n c')).heap.size = w.heap.size := by simp [World.setCell]
    refine ⟨⟨by rw [List.length_set, hcnt], ?_, ?_, h.ge, ?_, h.ne, fun r hr' => ?_, fun j hj => ?_⟩, by simp [World.frozen?, ho], hB⟩
    · rw [World.cell?_setCell_other _ _ _ _ (fun e => hbg (by injection e)), h.box]
    · rw [World.frozen?_setCell]; exact h.soft
    · rw [hA]
      obtain ⟨c1, g1, s1⟩ := obj_setCell (o := k) (v := .slice A' n c') ho
      refine own_of_cells ⟨c1, g1, by omega⟩ (by rw [List.length_set, hxl]) (fun j v hj => ?_) hB hn hm
      by_cases hjk : j = k
      · subst hjk
        rw [List.getElem?_set_self (by omega)] at hj
        injection hj with hj
        subst hj
        have h9 : w.cell? ⟨b, j, none⟩ = some (cur[j]'(by omega)) := by rw [cell_obj ho, Array.getElem?_eq_getElem]
        exact World.cell?_setCell_same _ _ _ h9
      · rw [List.getElem?_set_ne (by omega)] at hj
        rw [World.cell?_setCell_other _ _ _ _ (fun e => hjk (by injection e with _ e _; exact e.symm)), cell_obj ho]
        exact hcur j v hj
    · rcases List.mem_or_eq_of_mem_set hr' with h1 | h1
      · exact h.len r h1
      · rw [h1]; exact hr.1
    · rw [List.length_set] at hj
      by_cases hjk : j = k
      · subst hjk
        refine ⟨A', c', List.getElem?_set_self (by omega), ?_⟩
        rw [List.getElem_set_self]
        exact (hr.mono hz).keep (by rw [hsz]; exact Nat.le_refl _) fun q hq _ => hkeep q fun e => hq.2 _ hA (by rw [e])
      · obtain ⟨A1, c1, e1, hr1⟩ := h.cells j hj
        refine ⟨A1, c1, by rw [List.getElem?_set_ne (by omega)]; exact e1, ?_⟩
        rw [List.getElem_set_ne (by omega)]
        exact hr1.keep (by rw [hsz]; exact Nat.le_refl _) fun q hq _ => hkeep q fun e => hq.2 _ hA (by rw [e])
/-- A row put into a list of one's own at a place: the list may lie elsewhere then. -/
theorem FormAt.ins {w w1 : World} {B g n N k : Nat} {F : List (List Int)} {A A' A2 : Option Addr} {c c' c2 : Nat} {xs : List Value} {Z : Zone} {y : List Int} (h : FormAt w B g n N F A c xs) (hk : k ≤ N) (hr : RowAt w Z A' c' n y) (hz : Z.le (offZ g A))
    (hown : w1.ownsRow B 23 1 (.slice A2 (N + 1) c2) (N + 1) (xs.take k ++ .slice A' n c' :: xs.drop k)) (hg : w.grownBy w1 (Value.slice A N c).ownBlock) (hf : Fresh w (.slice A N c) (.slice A2 (N + 1) c2)) :
    FormAt (w1.setCell ⟨g, 0, none⟩ (.slice A2 (N + 1) c2)) B g n (N + 1) (F.take k ++ y :: F.drop k) A2 c2 (xs.take k ++ .slice A' n c' :: xs.drop k) ∧ w1.cell? ⟨g, 0, none⟩ = some (.slice A N c) ∧ w1.frozen? ⟨g, 0, none⟩ = false := by
  have hcnt := h.cnt
  have hgl : g < w.heap.size := lt_of_cell h.box
  have hxl : xs.length = N := by have := h.own.1; omega
  have hob : ∀ q, (∀ a, A = some a → a.block ≠ q) → some q ≠ (Value.slice A N c).ownBlock := fun q hq e => by
    cases A with
    | none => cases e
    | some a => injection e with e; exact hq a rfl e.symm
  have hgb : w1.heap[g]? = w.heap[g]? := hg.block g hgl (hob g h.ne)
  have hne2 : ∀ a, A2 = some a → a.block ≠ g := fun a ha e => by
    rcases hf with h1 | h1
    · rw [ha] at h1
      cases A with
      | none => cases h1
      | some a' => injection h1 with h1; exact h.ne a' rfl (by rw [← h1]; exact e)
    · have := h1 a.block (by rw [ha]; rfl)
      omega
  have hcell : w1.cell? ⟨g, 0, none⟩ = some (.slice A N c) := (World.cell?_of_block (a := ⟨g, 0, none⟩) hgb).trans h.box
  have hfro : w1.frozen? ⟨g, 0, none⟩ = false := (World.frozen?_of_block (a := ⟨g, 0, none⟩) hgb).trans h.soft
  have hoff : ∀ q, (offZ g A).blk q → q < w.heap.size → (offZ g A2).blk q := fun q hq hl => ⟨hq.1, fun a ha e => by
    rcases hf with h1 | h1
    · rw [ha] at h1
      cases A with
      | none => cases h1
      | some a' => injection h1 with h1; exact hq.2 a' rfl (by rw [← h1]; exact e)
    · have := h1 a.block (by rw [ha]; rfl)
      omega⟩
  have hmove : ∀ {A1 : Option Addr} {c1 : Nat} {z : List Int}, RowAt w (offZ g A) A1 c1 n z → RowAt (w1.setCell ⟨g, 0, none⟩ (.slice A2 (N + 1) c2)) (offZ g A2) A1 c1 n z := fun h1 =>
    h1.move (by simp only [World.setCell, Array.size_modify]; exact hg.size) (fun q hq hl => by
      rw [Below.heap_setCell _ _ _ _ (show q ≠ g from hq.1)]
      exact hg.block q hl (hob q hq.2)) hoff (fun h => h)
  refine ⟨⟨?_, World.cell?_setCell_same _ _ _ hcell, ?_, h.ge, ?_, hne2, fun r hr' => ?_, fun j hj => ?_⟩, hcell, hfro⟩
  · rw [List.length_append, List.length_cons, List.length_take, List.length_drop]; omega
  · rw [World.frozen?_setCell]; exact hfro
  · exact ownsRow_setCell_other hown (fun e => by
      cases A2 with
      | none => cases e
      | some a => injection e with e; exact hne2 a rfl e) _
  · rcases List.mem_append.1 hr' with h1 | h1
    · exact h.len r (List.mem_of_mem_take h1)
    · rcases List.mem_cons.1 h1 with h1 | h1
      · rw [h1]; exact hr.1
      · exact h.len r (List.mem_of_mem_drop h1)
  · have hjl : j < N + 1 := by
      rw [List.length_append, List.length_cons, List.length_take, List.length_drop] at hj; omega
    rw [ins_get (by omega)]
    by_cases h1 : j < k
    · obtain ⟨A1, c1, e1, hr1⟩ := h.cells j (by omega)
      refine ⟨A1, c1, by rw [if_pos h1]; exact e1, ?_⟩
      have e2 : (F.take k ++ y :: F.drop k)[j] = F[j] := by
        rw [List.getElem_append_left (by rw [List.length_take]; omega), List.getElem_take]
      rw [e2]
      exact hmove hr1
    · by_cases h2 : j = k
      · subst h2
        refine ⟨A', c', by rw [if_neg h1, if_pos rfl], ?_⟩
        have e2 : (F.take j ++ y :: F.drop j)[j] = y := by
          rw [List.getElem_append_right (by rw [List.length_take]; omega)]
          simp [List.length_take, hcnt, Nat.min_eq_left hk]
        rw [e2]
        exact hmove (hr.mono hz)
      · obtain ⟨A1, c1, e1, hr1⟩ := h.cells (j - 1) (by omega)
        refine ⟨A1, c1, by rw [if_neg h1, if_neg h2]; exact e1, ?_⟩
        have e2 : (F.take k ++ y :: F.drop k)[j] = F[j - 1]'(by omega) := by
          apply Option.some.inj
          rw [← List.getElem?_eq_getElem, ← List.getElem?_eq_getElem]
          rw [List.getElem?_append_right (by rw [List.length_take]; omega), List.length_take, hcnt, Nat.min_eq_left hk]
          obtain ⟨i, hi⟩ : ∃ i, j - k = i + 1 := ⟨j - k - 1, by omega⟩
          rw [hi, List.getElem?_cons_succ, List.getElem?_drop]
          congr 1
          omega
        rw [e2]
        exact hmove hr1

end Go.Proofs.YtajmijnoikkffaaGreat

namespace Go.Proofs.YtajmijnoikkffaaGreat
open Go.RowKit
set_option linter.unusedVariables false
set_option linter.unusedSimpArgs false

theorem cell_two {w : World} {g b j : Nat} {v x y : Value} (h : w.cell? ⟨b, j, none⟩ = some v) (hn : b ≠ g) : ((w.setCell ⟨g, 0, none⟩ x).setCell ⟨g, 1, none⟩ y).cell? ⟨b, j, none⟩ = some v := by
  rw [World.cell?_setCell_other _ _ _ _ (fun e => hn (by injection e with e _ _; exact e.symm)), World.cell?_setCell_other _ _ _ _ (fun e => hn (by injection e with e _ _; exact e.symm))]
  exact h

set_option maxRecDepth 100000 in
set_option maxHeartbeats 4000000 in
theorem across_ok {w : World} {Z : Zone} {A : Option Addr} {c g n k M : Nat} {F : List (List Int)} (hg : w.cell? ⟨g, 0, none⟩ = some (.slice A F.length c)) (hF : MatN w Z A c n F) (hp : ∀ r ∈ F, pk n r ≠ 0) (k1 : 1 ≤ k) (k2 : k ≤ n) (hn : n ≤ 64) (hM : ∀ r ∈ F, SzV M r) (hK : 1 + (F.length + 1) * M ≤ 10000000000) :
    Calls Tryz.prog 23 #[.pointer (some ⟨g, 0, none⟩), .int .i64 (n : Int), .int .i64 ((k % n : Nat) : Int)] w fun e w' => ∃ Av cv, e = .returned (.slice Av n cv) ∧ RowAt w' (since w.heap.size) Av cv n (acF n F k) ∧ Below w.heap.size w w' := by
  obtain ⟨i0, hi0, hz0, hz1, hz2⟩ := info_parts infoI
  obtain ⟨N, hN⟩ : ∃ N, N = F.length := ⟨_, rfl⟩
  have hKm : 1 + N * M + M ≤ 10000000000 := by rw [Nat.add_mul] at hK; rw [hN]; omega
  obtain ⟨i, hid⟩ : ∃ i, i = k % n := ⟨_, rfl⟩
  have hin : i < n := by rw [hid]; exact Nat.mod_lt _ (by omega)
  have one : Nm 1 false [1] := ⟨rfl, (limbs_one (by omega) (by omega)).symm⟩
  have CO : Hid (∀ W, Calls Tryz.prog 12 #[.int .i64 1] W fun e w' => ∃ A c, e = .returned (.agg #[.bool false, .slice A 1 c]) ∧ U64s w' (new W.heap.size) A c [1] ∧ Below W.heap.size W w') := fun W => by
    have := wof_n (w := W) one (by omega)
    exact this
  have HAT : Hid (∀ W, Below w.heap.size w W → ∀ j (hj : j < F.length), ∃ b o B d, A = some ⟨b, o, none⟩ ∧ b < W.heap.size ∧ W.cell? ⟨b, o + j, none⟩ = some (.slice B n d) ∧ RowAt W Z B d n F[j]) := fun W h j hj => (hF.below h).at hj
  have CP : Hid (∀ W B d j (hj : j < F.length) Y, RowAt W Y B d n F[j] → Calls Tryz.prog 21 #[.slice B n d] W fun e w' => e = .returned (.int .i64 ((pk n F[j] % n : Nat) : Int)) ∧ Below W.heap.size W w') := fun W B d j hj Y h => by
    have h1 := pivot_any h
    rwa [show pvI n F[j] = ((pk n F[j] % n : Nat) : Int) from if_neg (hp _ (List.getElem_mem hj))] at h1
  have HGL := Lib.hid (lt_of_cell hg)
  have hNc : N ≤ 9223372036854775807 := by rw [hN]; exact hF.len
  rw [← hid]
  rw [← hN] at hg
  have HN := Lib.hid hN
  have HID := Lib.hid hid
  have HP := Lib.hid hp
  have HM := Lib.hid hM
  clear hF hp hM hK hid hN
  go_enter Tryz.func23, Tryz.ntmps23
  go_wp2_with fail
  refine (CO.out _).mono ?_
  rintro e w1 ⟨A1, c1, rfl, u1, hc1⟩
  have bR := Box.new w1 (.bool false) (.slice A1 1 c1) 42
  have hal : Below w1.heap.size w1 (w1.alloc (.cells #[.bool false, .slice A1 1 c1] 42)) := (Below.refl _ _).alloc (Nat.le_refl _) _
  have hB1 := from_ hc1 hal
  have hg1 := keepC hB1 hg
  have uo1 : U64s (w1.alloc (.cells #[.bool false, .slice A1 1 c1] 42)) (since w.heap.size) A1 c1 [1] := (u1.below hal).mono (new_since (Nat.le_refl _))
  have hGw : w.heap.size ≤ w1.heap.size := hc1.size
  clear u1 hal hc1
  go_wp2
  go_loopw [22] (fun v wr => ∃ (q : Nat) (so : Bool) (lo : List Nat) (Ao : Option Addr) (ca : Nat), q ≤ N ∧ v = .int .i64 (q : Int) ∧ Box wr w1.heap.size (.bool so) (.slice Ao lo.length ca) ∧ U64s wr (since w.heap.size) Ao ca lo ∧ Hid (Nm (allG n (F.take q) 1) so lo) ∧ lo.length ≤ 1 + q * M ∧ Below w.heap.size w wr) (fun v _ => N - (intOf v).toNat)
  case atStart => exact ⟨0, false, [1], A1, c1, Nat.zero_le _, rfl, bR, uo1, one, by simp, hB1⟩
  case round =>
    clear bR uo1 hB1 hg1
    obtain ⟨q, so, lo, Ao, ca, hq, rfl, bR, uo, hno, hlo, hbel⟩ := hrel
    by_cases hlt : q < N
    · have hqF : q < F.length := by have := HN.out; omega
      obtain ⟨b, o, B2, d2, rfl, hbb, x0, hr⟩ := HAT.out _ hbel q hqF
      have hpl : pk n F[q] % n < n := Nat.mod_lt _ (by omega)
      obtain ⟨b3, o3, B3, d3, s, l, rfl, hb3, y0, y1, hu3, hnm3⟩ := hr.at hpl
      rw [← co_get] at hnm3
      have hl3 : l.length ≤ M := by rw [hnm3.2]; exact szv_co (HM.out _ (List.getElem_mem hqF)) _
      have hqM : (q + 1) * M = q * M + M := Nat.succ_mul _ _
      have hqN : (q + 1) * M ≤ N * M := Nat.mul_le_mul_right _ hlt
      have hdr : Below wr.heap.size wr wr.drew := (Below.refl _ _).drew
      have C1 := Lib.hid (CP.out wr.drew _ _ q hqF _ (hr.below hdr))
      have hst : allG n (F.take (q + 1)) 1 = allG n (F.take q) 1 * co n F[q] (pk n F[q]) := by
        unfold allG
        rw [List.take_succ_eq_append_getElem hqF, List.foldl_append]
        rfl
      generalize allG n (F.take q) 1 = a0 at *
      generalize co n F[q] (pk n F[q]) = e0 at *
      generalize pk n F[q] % n = p at *
      obtain ⟨sz, lz, nz⟩ : ∃ s l, Nm (a0 * e0) s l := ⟨_, _, Nm.mk' _⟩
      have hlz : lz.length ≤ 1 + (q + 1) * M := by
        have := lz_mul a0 e0
        rw [← nz.len, ← hno.out.len, ← hnm3.len] at this
        omega
      have C2 : Hid (∀ W, Below wr.heap.size wr W → Calls Tryz.prog 42 #[.agg #[.bool so, .slice Ao lo.length ca], .agg #[.bool s, .slice B3 l.length d3]] W fun e w' => ∃ A c, e = .returned (.tuple #[.agg #[.bool sz, .slice A lz.length c], .int .i64 0]) ∧ U64s w' (new W.heap.size) A c lz ∧ Below W.heap.size W w') := fun W h =>
        wmul_n hno.out hnm3 nz rfl (by omega) (by omega) (uo.below h) (hu3.below h)
      rw [← hst] at nz
      have HNZ := Lib.hid nz
      have HBel := Lib.hid hbel
      have bRd := bR.below hdr
      obtain ⟨s0, s1, _, _, _⟩ := id bRd
      have s2 := keepC hdr y0
      have s3 := keepC hdr y1
      have hGl := bR.lt
      have HBd := Lib.hid hdr
      clear hr hu3 hnm3 hst nz hno uo hdr y0 y1 bR hqF hbel hqM hqN
      go_wp2
      go_region_with (first
        | (go_at_call 21; refine C1.out.mono ?_; rintro e w2 ⟨rfl, hc0⟩; have p0 := keepC hc0 s0; have p1 := keepC hc0 s1; have p2 := keepC hc0 s2; have p3 := keepC hc0 s3)
        | (go_at_call 42; refine (C2.out _ (from_ HBd.out hc0)).mono ?_; rintro e w3 ⟨A5, c5, rfl, u5, hc5⟩; obtain ⟨q0, q1, f0, f1, _⟩ := (bRd.below hc0).below hc5))
      all_goals
        have hb5 := from_ (from_ HBd.out hc0) hc5
        have hB5 := from_ HBel.out hb5
        have hP := ((bRd.below hc0).below hc5).put hB5 hGw (.bool sz) (.slice A5 lz.length c5)
        have hsz5 := (from_ HBd.out hc0).size
        have hu6 : U64s ((w3.setCell ⟨w1.heap.size, 0, none⟩ (.bool sz)).setCell ⟨w1.heap.size, 1, none⟩ (.slice A5 lz.length c5)) (since w.heap.size) A5 c5 lz := (u5.keep fun b hb _ => by
          have hb' : w2.heap.size ≤ b := hb
          rw [Below.heap_setCell _ _ _ _ (show b ≠ w1.heap.size by omega), Below.heap_setCell _ _ _ _ (show b ≠ w1.heap.size by omega)]).mono (new_since (Nat.le_trans HBel.out.size hsz5))
        have HU := Lib.hid hu6
        have HPP := Lib.hid hP
        clear hP hu6 u5 hB5 hb5
        go_wp2
        go_roundw
        case rel => exact ⟨q + 1, sz, lz, A5, c5, by omega, by go_num, HPP.out.box, HU.out, HNZ, hlz, HPP.out.bel⟩
        case measure => simp [intOf]; omega
    · obtain rfl : N = q := by omega
      have hall : allG n (F.take N) 1 = allF n F := by rw [HN.out, List.take_length]; rfl
      rw [hall] at hno
      have HNO := hno
      clear hall hno hlt hq
      rename World => wq
      have hgq := keepC hbel hg
      obtain ⟨t0, t1, _, _, hGl⟩ := id bR
      have hWq : w.heap.size ≤ wq.heap.size := hbel.size
      go_upto_region 8 with (at_make; go_loud (refine wpList_make_full _ rfl _ _ 23 rfl w.heap.size 42 i0 (.agg #[.bool false, .slice none 0 0]) 2 Tryz.underlying23 hi0 hz0 hz1 .i64 .i64 _ _ n rfl rfl rfl rfl (by rw [hz2]; omega) (by simp only [maxLen]; omega) hWq ?_); intro w4 hown hgrow)
      have hb4 : Below wq.heap.size wq w4 := (Below.refl _ wq).grown hgrow (Nat.le_refl _) (fun k h => by cases h)
      have hO := OutR.zero hown rfl
      generalize (madeCells (Value.agg #[.bool false, .slice none 0 0]).cells (n * 2)).toList = ys0 at *
      have hg4 := keepC hb4 hgq
      have m0 := keepC hb4 t0
      have m1 := keepC hb4 t1
      obtain ⟨x0, x1, d0, d1, f0, f1⟩ := hO.at hin
      have hOl := hO.lt
      have uq : U64s w4 (offO w.heap.size wq.heap.size) Ao ca lo := (uo.bound.below hb4).mono ⟨fun b hb => ⟨hb.1, Nat.ne_of_lt hb.2⟩, fun h => h.elim⟩
      have hO2 := hO.set (i := i) (s := so) (l := lo) (A := Ao) (c := ca) hin uq HNO.out
      have hb8 := (hb4.setCell (p := ⟨wq.heap.size, i * 2, none⟩) (Nat.le_refl _) (.bool so)).setCell (p := ⟨wq.heap.size, i * 2 + 1, none⟩) (Nat.le_refl _) (.slice Ao lo.length ca)
      have HO2 := Lib.hid hO2
      have HB8 := Lib.hid hb8
      have HBel := Lib.hid hbel
      have HUO := Lib.hid uo
      have HOl := Lib.hid hOl
      have HT0 := Lib.hid t0
      have HT1 := Lib.hid t1
      have HGQ := Lib.hid hgq
      clear hO hO2 hb8 hbel uo uq hown hgrow hb4 hOl t0 t1 hgq bR
      go_upto_region 9 with fail
      generalize (w4.setCell ⟨wq.heap.size, i * 2, none⟩ (.bool so)).setCell ⟨wq.heap.size, i * 2 + 1, none⟩ (.slice Ao lo.length ca) = W8 at *
      clear hg4 m0 m1 d0 d1 f0 f1
      have hg8 := keepC HB8.out HGQ.out
      go_wp2
      go_loopw [48] (fun v wr => ∃ (q : Nat) (xs : List Value), q ≤ N ∧ v = .int .i64 (q : Int) ∧ OutR wr w.heap.size wq.heap.size n (acG n (allF n F) k (F.take q) ((List.replicate n 0).set i (allF n F))) xs ∧ Below wq.heap.size wq wr) (fun v _ => N - (intOf v).toNat)
      case atStart => exact ⟨0, _, Nat.zero_le _, rfl, HO2.out, HB8.out⟩
      case round =>
        clear hg8 HO2 HB8
        obtain ⟨q, xs, hq, rfl, hO, hbq⟩ := hrel
        by_cases hlt : q < N
        · have hqF : q < F.length := by have := HN.out; omega
          have hmem := List.getElem_mem hqF
          have hbw := from_ HBel.out hbq
          obtain ⟨b, o, B2, d2, rfl, hbb, x0, hr⟩ := HAT.out _ hbw q hqF
          have hpl : pk n F[q] % n < n := Nat.mod_lt _ (by omega)
          have C1 := Lib.hid (CP.out wr _ _ q hqF _ hr)
          obtain ⟨b4, o4, B4, d4, s, l, rfl, hb4, y0, y1, hu4, hnm4⟩ := hr.at hin
          obtain ⟨b5, o5, B5, d5, t, m, e5, hb5, z0, z1, hu5, hnm5⟩ := hr.at hpl
          injection e5 with e5
          injection e5 with e5 e6 _
          subst e5 e6
          have hck : F[q].getD i 0 = co n F[q] k := by rw [HID.out]; rfl
          rw [hck] at hnm4
          rw [← co_get] at hnm5
          have hl4 : l.length ≤ M := by rw [hnm4.2]; exact szv_co (HM.out _ hmem) _
          have hNM : (limbs (allF n F).natAbs).length ≤ 1 + N * M := by rw [HN.out]; exact szv_all HM.out
          have hlo9 : lo.length ≤ 1 + N * M := by rw [HNO.out.2]; exact hNM
          have hne5 : co n F[q] (pk n F[q]) ≠ 0 := pk_at (HP.out _ hmem)
          have hdv : (allF n F * co n F[q] k).natAbs % (co n F[q] (pk n F[q])).natAbs = 0 :=
            Nat.mod_eq_zero_of_dvd (Int.natAbs_dvd_natAbs.2 (Int.dvd_trans (allF_dvd F _ hmem) (Int.dvd_mul_right _ _)))
          have hst : acG n (allF n F) k (F.take (q + 1)) ((List.replicate n 0).set i (allF n F)) = (acG n (allF n F) k (F.take q) ((List.replicate n 0).set i (allF n F))).set (pk n F[q] % n) (acN n (allF n F) F[q] k) := by
            unfold acG
            rw [List.take_succ_eq_append_getElem hqF, List.foldl_append]
            rfl
          obtain ⟨s1, l1, nz1⟩ : ∃ s l, Nm (allF n F * co n F[q] k) s l := ⟨_, _, Nm.mk' _⟩
          obtain ⟨s2, l2, nz2⟩ : ∃ s l, Nm (tq (allF n F * co n F[q] k) (co n F[q] (pk n F[q]))) s l := ⟨_, _, Nm.mk' _⟩
          obtain ⟨s3, l3, nz3⟩ : ∃ s l, Nm (acN n (allF n F) F[q] k) s l := ⟨_, _, Nm.mk' _⟩
          have hl1 : l1.length ≤ 1 + N * M + M := by
            have := lz_mul (allF n F) (co n F[q] k)
            rw [← nz1.len, ← HNO.out.len, ← hnm4.len] at this
            omega
          have hl2 : l2.length ≤ 1 + N * M + M := by
            have := tq_len (allF n F * co n F[q] k) (co n F[q] (pk n F[q]))
            rw [← nz1.len, ← nz2.len] at this
            omega
          have CM : Hid (∀ W, Below wr.heap.size wr W → Calls Tryz.prog 42 #[.agg #[.bool so, .slice Ao lo.length ca], .agg #[.bool s, .slice B4 l.length d4]] W fun e w' => ∃ A c, e = .returned (.tuple #[.agg #[.bool s1, .slice A l1.length c], .int .i64 0]) ∧ U64s w' (new W.heap.size) A c l1 ∧ Below W.heap.size W w') := fun W h =>
            wmul_n HNO.out hnm4 nz1 rfl (by omega) (by omega) ((HUO.out.below hbq).below h) (hu4.below h)
          have CE : Hid (∀ W Y A c, Below wr.heap.size wr W → U64s W Y A c l1 → Calls Tryz.prog 43 #[.agg #[.bool s1, .slice A l1.length c], .agg #[.bool t, .slice B5 m.length d5]] W fun e w' => ∃ A c, e = .returned (.tuple #[.agg #[.bool s2, .slice A l2.length c], .int .i64 0]) ∧ U64s w' (new W.heap.size) A c l2 ∧ Below W.heap.size W w') := fun W Y A c h h1 =>
            exactV_n nz1 hnm5 nz2 rfl hne5 hdv (by omega) h1 (hu5.below h)
          have CN : Hid (∀ W Y A c, U64s W Y A c l2 → Calls Tryz.prog 44 #[.agg #[.bool s2, .slice A l2.length c]] W fun e w' => ∃ A c, e = .returned (.tuple #[.agg #[.bool s3, .slice A l3.length c], .int .i64 0]) ∧ U64s w' (new W.heap.size) A c l3 ∧ Below W.heap.size W w') := fun W Y A c h =>
            wneg_n nz2 nz3 rfl (by omega) h
          have hOs := fun (W : World) (A' : Option Addr) (c' : Nat) (h : Below wr.heap.size wr W) (hu : U64s W (offO w.heap.size wq.heap.size) A' c' l3) => (hO.below h).set hpl hu nz3
          rw [← hst] at hOs
          have HOS := Lib.hid hOs
          have hOl2 := hO.lt
          have HOAT := Lib.hid (fun (W : World) (h : Below wr.heap.size wr W) => (hO.below h).at hpl)
          have HZ : Hid (∀ C, wr.heap.size ≤ C → (new C).le (offO w.heap.size wq.heap.size)) := fun C h => new_offO (by omega) (by omega)
          have g0 := keepC hbq HT0.out
          have g1 := keepC hbq HT1.out
          have HBQ := Lib.hid hbq
          clear hr hu4 hu5 hnm4 hnm5 nz1 nz2 nz3 hst hO hOs hdv hne5 hNM hlo9 hck hmem hbw hl1 hl2 hl4 hbq hb5
          generalize pk n F[q] % n = p at *
          go_wp2_with fail
          refine C1.out.mono ?_
          rintro e w2 ⟨rfl, hc2⟩
          have CM2 : Hid (∀ W, Below w2.heap.size w2 W → Calls Tryz.prog 42 #[.agg #[.bool so, .slice Ao lo.length ca], .agg #[.bool s, .slice B4 l.length d4]] W fun e w' => ∃ A c, e = .returned (.tuple #[.agg #[.bool s1, .slice A l1.length c], .int .i64 0]) ∧ U64s w' (new W.heap.size) A c l1 ∧ Below W.heap.size W w') := fun W h => CM.out W (from_ hc2 h)
          replace g0 := keepC hc2 g0
          replace g1 := keepC hc2 g1
          replace y0 := keepC hc2 y0
          replace y1 := keepC hc2 y1
          replace z0 := keepC hc2 z0
          replace z1 := keepC hc2 z1
          have hdr0 : Below w2.heap.size w2 w2.drew := (Below.refl _ _).drew
          have hdr : Below w2.heap.size w2 (w2.alloc (.cells #[.bool false, .slice none 0 0] 42)).drew := ((Below.refl _ _).alloc (Nat.le_refl _) _).drew
          have s0 := keepC hdr0 g0
          have s1' := keepC hdr0 g1
          have s2' := keepC hdr0 y0
          have s3' := keepC hdr0 y1
          have sa0 := keepC hdr g0
          have sa1 := keepC hdr g1
          have sa2 := keepC hdr y0
          have sa3 := keepC hdr y1
          have bN := (Box.new w2 (.bool false) (.slice none 0 0) 42).below (W' := (w2.alloc (.cells #[.bool false, .slice none 0 0] 42)).drew) ((Below.refl _ _).drew)
          have lG := lt_of_cell g0
          have lB := lt_of_cell y0
          simp only at lG lB
          have nG : ¬ (w2.heap.size = w1.heap.size) := by omega
          have nB : ¬ (w2.heap.size = b4) := by omega
          have nG' : ¬ (w1.heap.size = w2.heap.size) := by omega
          have nB' : ¬ (b4 = w2.heap.size) := by omega
          have HC2 := Lib.hid hc2
          have HG := Lib.hid (And.intro g0 g1)
          have HZ0 := Lib.hid (And.intro z0 z1)
          clear g0 g1 y0 y1 z0 z1 hc2 C1 CM
          go_wp2
          first | go_region_held3 (fun w' => (w'.cell? ⟨w1.heap.size, 0, none⟩ = some (.bool so) ∧ w'.cell? ⟨w1.heap.size, 1, none⟩ = some (.slice Ao lo.length ca)) ∧ w'.cell? ⟨b4, o4 + i * 2, none⟩ = some (.bool s) ∧ w'.cell? ⟨b4, o4 + i * 2 + 1, none⟩ = some (.slice B4 l.length d4))
            (first
              | (go_keep; done)
              | with_reducible exact ⟨⟨s0, s1'⟩, s2', s3'⟩
              | with_reducible exact ⟨⟨sa0, sa1⟩, sa2, sa3⟩
              | with_reducible exact ⟨⟨t0, t1⟩, t2, t3⟩
              | with_reducible exact ⟨⟨cell_two t0 nG', cell_two t1 nG'⟩, cell_two t2 nB', cell_two t3 nB'⟩)
            (first
              | (go_at_call 42; with_reducible refine (CM2.out _ hdr0).mono ?_; rintro e w5 ⟨Av, cv, rfl, hu, hc5⟩; have t0 := keepC hc5 s0; have t1 := keepC hc5 s1'; have t2 := keepC hc5 s2'; have t3 := keepC hc5 s3'; obtain ⟨q0, q1, f0, f1, _⟩ := Box.new w5 (.bool false) (.slice none 0 0) 42)
              | (go_at_call 42; with_reducible refine (CM2.out _ hdr).mono ?_; rintro e w5 ⟨Av, cv, rfl, hu, hc5⟩; have t0 := keepC hc5 sa0; have t1 := keepC hc5 sa1; have t2 := keepC hc5 sa2; have t3 := keepC hc5 sa3; obtain ⟨q0, q1, f0, f1, _⟩ := bN.below hc5)) | fail
          · have hX := Lib.hid ((from_ hdr0 hc5).alloc (from_ hdr0 hc5).size (.cells #[.bool s1, .slice Av l1.length cv] 42))
            have bX := Lib.hid (Box.new w5 (.bool s1) (.slice Av l1.length cv) 42)
            have uX := Lib.hid ((hu.below ((Below.refl _ w5).alloc (Nat.le_refl _) (.cells #[.bool s1, .slice Av l1.length cv] 42))).mono (le_old _))
            have gX := (from_ hdr0 hc5).size
            clear s0 s1' s2' s3' sa0 sa1 sa2 sa3 t0 t1 t2 t3 q0 q1 f0 f1 hu hc5 bN hdr hdr0
            generalize w5.alloc (.cells #[.bool s1, .slice Av l1.length cv] 42) = WX at *
            generalize w5.heap.size = g14 at *
            have nX : ¬ (g14 = b4) := by omega
            have nX' : ¬ (b4 = g14) := by omega
            have CE2 : Hid (∀ W Y A c, Below w2.heap.size w2 W → U64s W Y A c l1 → Calls Tryz.prog 43 #[.agg #[.bool s1, .slice A l1.length c], .agg #[.bool t, .slice B5 m.length d5]] W fun e w' => ∃ A c, e = .returned (.tuple #[.agg #[.bool s2, .slice A l2.length c], .int .i64 0]) ∧ U64s w' (new W.heap.size) A c l2 ∧ Below W.heap.size W w') := fun W Y A c h h1 => CE.out W Y A c (from_ HC2.out h) h1
            have hd9 : Below WX.heap.size WX WX.drew := (Below.refl _ _).drew
            obtain ⟨x0, x1, _, _, lX⟩ := id bX.out
            have v0 := keepC hX.out HZ0.out.1
            have v1 := keepC hX.out HZ0.out.2
            have UXD := Lib.hid (uX.out.below hd9)
            have HXD := Lib.hid (from_ hX.out hd9)
            have BXD := Lib.hid (bX.out.below hd9)
            have hd9_ := hd9
            clear hd9 CE
            go_wp2
            obtain ⟨_, _, fx0, fx1, _⟩ := id bX.out
            have xd0 := keepC hd9_ x0
            have xd1 := keepC hd9_ x1
            have vd0 := keepC hd9_ v0
            have vd1 := keepC hd9_ v1
            first | go_region_with ((go_at_call 43; refine (CE2.out _ _ _ _ HXD.out UXD.out).mono ?_; rintro e w6 ⟨A6, c6, rfl, u6, hc6⟩; have b6 := BXD.out.below hc6; obtain ⟨q0, q1, f0, f1, _⟩ := id b6)) | fail
            all_goals
              have HB6 := from_ HXD.out hc6
              have hP6 := b6.put HB6 gX (.bool s2) (.slice A6 l2.length c6)
              have hs6 : g14 < WX.drew.heap.size := lX
              have u7 := (u6.keep (w' := (w6.setCell ⟨g14, 0, none⟩ (.bool s2)).setCell ⟨g14, 1, none⟩ (.slice A6 l2.length c6)) fun b hb _ => by
                have hb' : WX.drew.heap.size ≤ b := hb
                rw [Below.heap_setCell _ _ _ _ (show b ≠ g14 by omega), Below.heap_setCell _ _ _ _ (show b ≠ g14 by omega)])
              have BY := Lib.hid hP6.box
              have HY := Lib.hid hP6.bel
              have UY := Lib.hid u7
              clear x0 x1 v0 v1 xd0 xd1 vd0 vd1 hd9_ fx0 fx1 u6 hc6 b6 HB6 hP6 u7 UXD HXD BXD hs6 lX
              go_upto_region 15 with fail
              clear q0 q1 f0 f1
              generalize (w6.setCell ⟨g14, 0, none⟩ (.bool s2)).setCell ⟨g14, 1, none⟩ (.slice A6 l2.length c6) = WY at *
              obtain ⟨x0, x1, _, _, _⟩ := id BY.out
              go_wp2_with fail
              refine (CN.out _ _ _ _ UY.out).mono ?_
              rintro e w7 ⟨A7, c7, rfl, u8, hc7⟩
              have hb7 := from_ (from_ HC2.out HY.out) hc7
              obtain ⟨j0, j1, d0, d1, f0, f1⟩ := HOAT.out _ hb7
              have hsY : wr.heap.size ≤ WY.heap.size := (from_ HC2.out HY.out).size
              have HFin := Lib.hid (HOS.out w7 A7 c7 hb7 (u8.mono (HZ.out _ hsY)))
              have HBF := Lib.hid (((HBQ.out.trans (hb7.mono HBQ.out.size)).setCell (p := ⟨wq.heap.size, p * 2, none⟩) (Nat.le_refl _) (.bool s3)).setCell (p := ⟨wq.heap.size, p * 2 + 1, none⟩) (Nat.le_refl _) (.slice A7 l3.length c7))
              clear x0 x1 u8 hc7 hb7
              go_wp2
              go_roundw
              case rel => exact ⟨q + 1, _, by omega, by go_num, HFin.out, HBF.out⟩
              case measure => simp [intOf]; omega
          · have hP := (bN.below hc5).put (from_ hdr hc5) (Nat.le_refl _) (.bool s1) (.slice Av l1.length cv)
            have hX := Lib.hid hP.bel
            have bX := Lib.hid hP.box
            have hs2 : w2.heap.size + 1 ≤ (w2.alloc (.cells #[.bool false, .slice none 0 0] 42)).drew.heap.size := by simp
            have uX : Hid (U64s ((w5.setCell ⟨w2.heap.size, 0, none⟩ (.bool s1)).setCell ⟨w2.heap.size, 1, none⟩ (.slice Av l1.length cv)) old Av cv l1) := ((hu.keep fun b hb _ => by
              have hb' := Nat.le_trans hs2 hb
              rw [Below.heap_setCell _ _ _ _ (show b ≠ w2.heap.size by omega), Below.heap_setCell _ _ _ _ (show b ≠ w2.heap.size by omega)]).mono (le_old _))
            clear s0 s1' s2' s3' sa0 sa1 sa2 sa3 t0 t1 t2 t3 q0 q1 f0 f1 hu hc5 bN hdr hdr0 hP hs2
            generalize (w5.setCell ⟨w2.heap.size, 0, none⟩ (.bool s1)).setCell ⟨w2.heap.size, 1, none⟩ (.slice Av l1.length cv) = WX at *
            obtain ⟨g14, hg14⟩ : ∃ g14, g14 = w2.heap.size := ⟨_, rfl⟩
            rw [← hg14] at bX ⊢
            have gX : w2.heap.size ≤ g14 := by omega
            clear hg14
            have nX : ¬ (g14 = b4) := by omega
            have nX' : ¬ (b4 = g14) := by omega
            have CE2 : Hid (∀ W Y A c, Below w2.heap.size w2 W → U64s W Y A c l1 → Calls Tryz.prog 43 #[.agg #[.bool s1, .slice A l1.length c], .agg #[.bool t, .slice B5 m.length d5]] W fun e w' => ∃ A c, e = .returned (.tuple #[.agg #[.bool s2, .slice A l2.length c], .int .i64 0]) ∧ U64s w' (new W.heap.size) A c l2 ∧ Below W.heap.size W w') := fun W Y A c h h1 => CE.out W Y A c (from_ HC2.out h) h1
            have hd9 : Below WX.heap.size WX WX.drew := (Below.refl _ _).drew
            obtain ⟨x0, x1, _, _, lX⟩ := id bX.out
            have v0 := keepC hX.out HZ0.out.1
            have v1 := keepC hX.out HZ0.out.2
            have UXD := Lib.hid (uX.out.below hd9)
            have HXD := Lib.hid (from_ hX.out hd9)
            have BXD := Lib.hid (bX.out.below hd9)
            have hd9_ := hd9
            clear hd9 CE
            go_wp2
            obtain ⟨_, _, fx0, fx1, _⟩ := id bX.out
            have xd0 := keepC hd9_ x0
            have xd1 := keepC hd9_ x1
            have vd0 := keepC hd9_ v0
            have vd1 := keepC hd9_ v1
            first | go_region_with ((go_at_call 43; refine (CE2.out _ _ _ _ HXD.out UXD.out).mono ?_; rintro e w6 ⟨A6, c6, rfl, u6, hc6⟩; have b6 := BXD.out.below hc6; obtain ⟨q0, q1, f0, f1, _⟩ := id b6)) | fail
            all_goals
              have HB6 := from_ HXD.out hc6
              have hP6 := b6.put HB6 gX (.bool s2) (.slice A6 l2.length c6)
              have hs6 : g14 < WX.drew.heap.size := lX
              have u7 := (u6.keep (w' := (w6.setCell ⟨g14, 0, none⟩ (.bool s2)).setCell ⟨g14, 1, none⟩ (.slice A6 l2.length c6)) fun b hb _ => by
                have hb' : WX.drew.heap.size ≤ b := hb
                rw [Below.heap_setCell _ _ _ _ (show b ≠ g14 by omega), Below.heap_setCell _ _ _ _ (show b ≠ g14 by omega)])
              have BY := Lib.hid hP6.box
              have HY := Lib.hid hP6.bel
              have UY := Lib.hid u7
              clear x0 x1 v0 v1 xd0 xd1 vd0 vd1 hd9_ fx0 fx1 u6 hc6 b6 HB6 hP6 u7 UXD HXD BXD hs6 lX
              go_upto_region 15 with fail
              clear q0 q1 f0 f1
              generalize (w6.setCell ⟨g14, 0, none⟩ (.bool s2)).setCell ⟨g14, 1, none⟩ (.slice A6 l2.length c6) = WY at *
              obtain ⟨x0, x1, _, _, _⟩ := id BY.out
              go_wp2_with fail
              refine (CN.out _ _ _ _ UY.out).mono ?_
              rintro e w7 ⟨A7, c7, rfl, u8, hc7⟩
              have hb7 := from_ (from_ HC2.out HY.out) hc7
              obtain ⟨j0, j1, d0, d1, f0, f1⟩ := HOAT.out _ hb7
              have hsY : wr.heap.size ≤ WY.heap.size := (from_ HC2.out HY.out).size
              have HFin := Lib.hid (HOS.out w7 A7 c7 hb7 (u8.mono (HZ.out _ hsY)))
              have HBF := Lib.hid (((HBQ.out.trans (hb7.mono HBQ.out.size)).setCell (p := ⟨wq.heap.size, p * 2, none⟩) (Nat.le_refl _) (.bool s3)).setCell (p := ⟨wq.heap.size, p * 2 + 1, none⟩) (Nat.le_refl _) (.slice A7 l3.length c7))
              clear x0 x1 u8 hc7 hb7
              go_wp2
              go_roundw
              case rel => exact ⟨q + 1, _, by omega, by go_num, HFin.out, HBF.out⟩
              case measure => simp [intOf]; omega
        · obtain rfl : N = q := by omega
          rw [HN.out, List.take_length] at hO
          have hfin := hO.row (by omega)
          have e9 : acG n (allF n F) k F ((List.replicate n 0).set i (allF n F)) = acF n F k := by rw [HID.out]; rfl
          rw [e9] at hfin
          have HF9 := Lib.hid hfin
          have HB9 := Lib.hid (from_ HBel.out hbq)
          clear hO hfin e9 hlt
          go_wp2
          go_ret
          exact ⟨_, _, rfl, HF9.out, HB9.out⟩

end Go.Proofs.YtajmijnoikkffaaGreat

namespace Go.Proofs.YtajmijnoikkffaaGreat
open Go.RowKit
set_option linter.unusedVariables false
set_option linter.unusedSimpArgs false

theorem orNew_offZ {w : World} {B g n N : Nat} {F : List (List Int)} {A : Option Addr} {c : Nat} {xs : List Value} (h : FormAt w B g n N F A c xs) {C : Nat} (hC : w.heap.size ≤ C) : (orNew (offZ g A) C).le (offZ g A) := ⟨fun b hb => hb.elim id fun g1 => by
  have hgl : g < w.heap.size := lt_of_cell h.box
  refine ⟨by omega, fun a ha e => ?_⟩
  rcases h.shape with ⟨e1, _⟩ | ⟨b', cur, e1, _, _, ho, _⟩
  · rw [e1] at ha; cases ha
  · rw [e1] at ha
    injection ha with ha
    have : b' < w.heap.size := by
      rcases Nat.lt_or_ge b' w.heap.size with g2 | g2
      · exact g2
      · rw [Array.getElem?_eq_none g2] at ho; cases ho
    subst ha
    have e3 : b' = b := e
    omega, fun h => h.elim⟩
theorem since_blk {B z : Nat} (h : (since B).blk z) : B ≤ z := h
theorem since_offZ {w : World} {B g n N : Nat} {F : List (List Int)} {A : Option Addr} {c : Nat} {xs : List Value} (h : FormAt w B g n N F A c xs) {C : Nat} (hC : w.heap.size ≤ C) : (since C).le (offZ g A) := ⟨fun b hb => (orNew_offZ h hC).1 b (.inr hb), fun h => h.elim⟩
/-- The place of the k-th row. -/
theorem FormAt.row {w : World} {B g n N k : Nat} {F : List (List Int)} {A : Option Addr} {c : Nat} {xs : List Value} (h : FormAt w B g n N F A c xs) (hk : k < N) :
    ∃ b A' c', A = some ⟨b, 0, none⟩ ∧ B ≤ b ∧ b ≠ g ∧ b < w.heap.size ∧ w.cell? ⟨b, k, none⟩ = some (.slice A' n c') ∧ w.frozen? ⟨b, k, none⟩ = false ∧ RowAt w (offZ g A) A' c' n (F[k]'(by have := h.cnt; omega)) := by
  have hcnt := h.cnt
  rcases h.shape with ⟨_, h1, h2⟩ | ⟨b, cur, e, hB, hbg, ho, _, _, _, hcur⟩
  · omega
  · obtain ⟨A', c', e1, hr⟩ := h.cells k (by omega)
    have hl : b < w.heap.size := by
      rcases Nat.lt_or_ge b w.heap.size with g1 | g1
      · exact g1
      · rw [Array.getElem?_eq_none g1] at ho; cases ho
    exact ⟨b, A', c', e, hB, hbg, hl, by rw [cell_obj ho]; exact hcur k _ e1, by simp [World.frozen?, ho], hr⟩
/-- Memory from a block on may have turned; but what is no box and no row's block lies as it lay. -/
structure OffB (B g : Nat) (A : Option Addr) (w w' : World) : Prop where
  bel : Below B w w'
  off : ∀ b, b < w.heap.size → b ≠ g → (∀ a, A = some a → a.block ≠ b) → w'.heap[b]? = w.heap[b]?
theorem OffB.of_below {B g : Nat} {A : Option Addr} {w w' : World} (h : Below w.heap.size w w') (hB : B ≤ w.heap.size) : OffB B g A w w' := ⟨h.mono hB, fun b hl _ _ => h.block b hl⟩
theorem OffB.step {B g : Nat} {A : Option Addr} {w wr w' : World} (h : OffB B g A w wr) (hb : Below wr.heap.size wr w') (hB : B ≤ w.heap.size) : OffB B g A w w' :=
  ⟨h.bel.trans (hb.mono (Nat.le_trans hB h.bel.size)), fun b hl h1 h2 => (hb.block b (Nat.lt_of_lt_of_le hl h.bel.size)).trans (h.off b hl h1 h2)⟩
theorem OffB.row {B g q : Nat} {A : Option Addr} {w w' : World} (h : OffB B g A w w') (hA : A = some ⟨q, 0, none⟩) (hq : B ≤ q) (j : Nat) (v : Value) : OffB B g A w (w'.setCell ⟨q, j, none⟩ v) :=
  ⟨h.bel.setCell (p := ⟨q, j, none⟩) hq v, fun b hl h1 h2 => (Below.heap_setCell w' ⟨q, j, none⟩ v b (fun e => h2 ⟨q, 0, none⟩ hA e.symm)).trans (h.off b hl h1 h2)⟩
theorem OffB.box {B g : Nat} {A : Option Addr} {w w' : World} (h : OffB B g A w w') (hg : B ≤ g) (v : Value) : OffB B g A w (w'.setCell ⟨g, 0, none⟩ v) :=
  ⟨h.bel.setCell (p := ⟨g, 0, none⟩) hg v, fun b hl h1 h2 => (Below.heap_setCell _ _ _ _ h1).trans (h.off b hl h1 h2)⟩
theorem OffB.grown {B g N c : Nat} {A : Option Addr} {w w' w5 : World} (h : OffB B g A w w') (hg : w'.grownBy w5 (Value.slice A N c).ownBlock) (hl : B ≤ w'.heap.size) (hq : ∀ q, (Value.slice A N c).ownBlock = some q → B ≤ q) : OffB B g A w w5 :=
  ⟨h.bel.grown hg hl hq, fun b hb h1 h2 => (hg.block b (Nat.lt_of_lt_of_le hb h.bel.size) (fun e => by
    cases A with
    | none => cases e
    | some a => injection e with e; exact h2 a rfl e.symm)).trans (h.off b hb h1 h2)⟩
theorem map_step {F : List (List Int)} {f : List Int → List Int} {k : Nat} (hk : k < F.length) : ((F.take k).map f ++ F.drop k).set k (f F[k]) = (F.take (k + 1)).map f ++ F.drop (k + 1) := by
  rw [List.set_append_right _ _ (by rw [List.length_map, List.length_take]; omega), List.length_map, List.length_take, Nat.min_eq_left (by omega), Nat.sub_self, List.take_succ_eq_append_getElem hk, List.map_append, List.append_assoc]
  congr 1
  rw [List.drop_eq_getElem_cons hk, List.set_cons_zero]
  rfl
theorem map_at {F : List (List Int)} {f : List Int → List Int} {k : Nat} (hk : k < F.length) (h2 : k < ((F.take k).map f ++ F.drop k).length) : ((F.take k).map f ++ F.drop k)[k] = F[k] := by
  rw [List.getElem_append_right (by rw [List.length_map, List.length_take]; omega)]
  simp [List.length_take, Nat.min_eq_left (show k ≤ F.length by omega)]

set_option maxRecDepth 100000 in
set_option maxHeartbeats 1000000 in
theorem put_any {w : World} {B g n N K M : Nat} {F : List (List Int)} {A Ax : Option Addr} {c cx : Nat} {xs : List Value} {Y : Zone} {x : List Int} (h : FormAt w B g n N F A c xs) (hi : Inv n F) (ha : RowAt w Y Ax cx n x) (hn : n ≤ 64) (hs : SzV K x) (hM : ∀ r ∈ F, SzV M r) (hK : K + N * (M + 1) + M + 1 ≤ 10000000000) (hBw : B ≤ w.heap.size) :
    Calls Tryz.prog 22 #[.pointer (some ⟨g, 0, none⟩), .slice Ax n cx] w fun e w' => (∃ v, e = .returned v) ∧ (∃ A2 c2 xs2, FormAt w' B g n (putF n F x).length (putF n F x) A2 c2 xs2) ∧ OffB B g A w w' := by
  have hcnt := h.cnt
  subst hcnt
  have hlx := ha.1
  have hN : F.length ≤ 64 := Nat.le_trans hi.le hn
  obtain ⟨a, haa⟩ : ∃ a, a = restF n F x := ⟨_, rfl⟩
  have R0 := rowrest_any (g := g) h.box h.mat ha hn hs hM hi.piv hK
  rw [← haa] at R0
  have la : a.length = n := by rw [haa]; exact restF_length hi.len hlx
  have sa : SzV (K + F.length * (M + 1)) a := by rw [haa]; exact szv_restF hs hM
  have za : ∀ r ∈ F, co n a (pk n r) = 0 := by rw [haa]; exact restF_pivots hi hlx
  obtain ⟨key, hkey⟩ : ∃ key, key = pk n a := ⟨_, rfl⟩
  have hpv : pvI n a = if key = 0 then -1 else ((key % n : Nat) : Int) := by rw [hkey]; rfl
  have hput : putF n F x = if key = 0 then F else putA n F a := by rw [hkey, haa]; rfl
  by_cases hp : key = 0
  · rw [if_pos hp] at hput hpv
    rw [hput]
    have C0 := Lib.hid R0
    have C1 : Hid (∀ W A c Z, RowAt W Z A c n a → Calls Tryz.prog 21 #[.slice A n c] W fun e w' => e = .returned (.int .i64 (-1)) ∧ Below W.heap.size W w') := fun W A c Z g => by
      have := pivot_any g
      rwa [hpv] at this
    have HFORM := Lib.hid h
    clear R0 h hi ha hs hM za sa haa hput hpv hkey hp
    go_enter Tryz.func22, Tryz.ntmps22
    go_wp2_with fail
    refine C0.out.mono ?_
    rintro e w1 ⟨A1, c1, rfl, hv, hc⟩
    go_wp2_with fail
    refine (C1.out _ _ _ _ hv).mono ?_
    rintro e w2 ⟨rfl, hc2⟩
    have hB := from_ hc hc2
    have hfin := HFORM.out.below hB
    clear hv hc hc2
    go_wp2
    refine bodyPost_ret (results_none rfl _ _ _) rfl ?_
    exact ⟨⟨_, rfl⟩, ⟨_, _, _, hfin⟩, OffB.of_below hB hBw⟩
  · rw [if_neg hp] at hput hpv
    have k2 : key ≤ n := by rw [hkey]; exact pk_le
    have hka : co n a key ≠ 0 := by rw [hkey]; exact pk_at (by rw [← hkey]; exact hp)
    obtain ⟨b, hb⟩ : ∃ b, b = upV n a key := ⟨_, rfl⟩
    have e0 : putF n F x = insF n (F.map fun r => wo n r b key) b key := by rw [hput, hb, hkey]; rfl
    have lb : b.length = n := by rw [hb]; exact upV_length la
    have sb : SzV (K + F.length * (M + 1)) b := by rw [hb]; exact szv_upV sa
    have pb : pk n b = key := by rw [hb, upV_pk, hkey]
    have ub : 0 < co n b key := by rw [hb]; exact upV_pos hka
    have zb : ∀ r ∈ F, co n b (pk n r) = 0 := fun r hr => by rw [hb]; exact upV_zero.2 (za r hr)
    have hrow : ∀ r ∈ F, pk n (wo n r b key) = pk n r := fun r hr => (wo_row (hi.len r hr) lb (by omega) ub pb (hi.piv r hr) (zb r hr)).1
    obtain ⟨i, hii⟩ : ∃ i, i = key % n := ⟨_, rfl⟩
    have hin : i < n := by rw [hii]; exact Nat.mod_lt _ (by omega)
    rw [← hii] at hpv
    have C0 := Lib.hid R0
    have C1 : Hid (∀ W A c Z, RowAt W Z A c n a → Calls Tryz.prog 21 #[.slice A n c] W fun e w' => e = .returned (.int .i64 (i : Int)) ∧ Below W.heap.size W w') := fun W A c Z g => by
      have := pivot_any g
      rwa [hpv] at this
    have CW : Hid (∀ W A1 c1 A3 c3 (j : Nat) (hj : j < F.length) Z, RowAt W Z A1 c1 n F[j] → RowAt W (since w.heap.size) A3 c3 n b → Calls Tryz.prog 34 #[.slice A1 n c1, .slice A3 n c3, .int .i64 (i : Int)] W fun e w' => ∃ Av cv, e = .returned (.slice Av n cv) ∧ RowAt w' (orNew Z W.heap.size) Av cv n (wo n F[j] b key) ∧ Below W.heap.size W w') := fun W A1 c1 A3 c3 j hj Z g1 g2 => by
      rw [hii]
      exact without_any g1 g2 (by omega) k2 hn (hM _ (List.getElem_mem hj)) sb (by omega)
    have CP : Hid (∀ W A1 c1 (j : Nat) (hj : j < F.length) Z, RowAt W Z A1 c1 n (wo n F[j] b key) → Calls Tryz.prog 21 #[.slice A1 n c1] W fun e w' => e = .returned (.int .i64 ((pk n F[j] % n : Nat) : Int)) ∧ Below W.heap.size W w') := fun W A1 c1 j hj Z g1 => by
      have h1 := pivot_any g1
      have h2 : pvI n (wo n F[j] b key) = ((pk n F[j] % n : Nat) : Int) := by
        unfold pvI
        rw [hrow _ (List.getElem_mem hj), if_neg (hi.piv _ (List.getElem_mem hj))]
      rwa [h2] at h1
    have CB : Hid (∀ W (j : Nat) (hj : j < F.length), Calls Tryz.prog 40 #[.int .i64 ((pk n F[j] % n : Nat) : Int), .int .i64 (i : Int)] W fun e w' => e = .returned (.bool (decide (pk n F[j] < key))) ∧ W = w') := fun W j hj => by
      have h1 := before_any (w := W) (pk n F[j] % n) (key % n) (by have := Nat.mod_lt (pk n F[j]) (show 0 < n by omega); omega) (by have := Nat.mod_lt key (show 0 < n by omega); omega)
      have h2 := hi.piv _ (List.getElem_mem hj)
      rwa [before_key (by omega) pk_le (by omega) k2, ← hii] at h1
    have HFORM := Lib.hid h
    have HZ := Lib.hid (since_offZ h (Nat.le_refl _))
    have E0 := Lib.hid e0
    have HLB := Lib.hid lb
    have h1n : Nm (-1) true [1] := ⟨rfl, (limbs_one (by omega) (by omega)).symm⟩
    have CO : Hid (∀ W, Calls Tryz.prog 12 #[.int .i64 (-1)] W fun e w' => ∃ A c, e = .returned (.agg #[.bool true, .slice A 1 c]) ∧ U64s w' (new W.heap.size) A c [1] ∧ Below W.heap.size W w') := fun W => by
      have := wof_n (w := W) h1n (by omega)
      exact this
    have CS : Hid (∀ W Z1 Z2 A c A2 c2, RowAt W Z1 A c n a → U64s W Z2 A2 c2 [1] → Calls Tryz.prog 39 #[.slice A n c, .agg #[.bool true, .slice A2 1 c2]] W fun e w' => ∃ Av cv, e = .returned (.tuple #[.slice Av n cv, .int .i64 0]) ∧ RowAt w' (new W.heap.size) Av cv n (a.map fun x => x * (-1)) ∧ Below W.heap.size W w') := fun W Z1 Z2 A c A2 c2 g1 g2 => by
      have := rscale (K := K + F.length * (M + 1) + 1) (t := true) (l := [1]) (y := -1) g1 g2 h1n hn (szv_mono sa (by omega)) (by simp) (by omega)
      exact this
    have HCO := Lib.hid (show co n a key = a.getD i 0 by rw [hii]; rfl)
    clear R0 h hi ha hs hM za zb sa sb haa hput hpv hka e0 lb ub pb h1n la hlx hii
    by_cases hneg : co n a key < 0
    · have hbe : b = a.map fun x => x * (-1) := by rw [hb]; exact if_pos hneg
      rw [← hbe] at CS
      have HBE := Lib.hid hbe
      clear hb hbe
      go_enter Tryz.func22, Tryz.ntmps22
      go_wp2_with fail
      refine C0.out.mono ?_
      rintro e w1 ⟨A1, c1, rfl, hv, hc⟩
      go_wp2_with fail
      refine (C1.out _ _ _ _ hv).mono ?_
      rintro e w2 ⟨rfl, hc2⟩
      replace hv := hv.below hc2
      have hB2 := from_ hc hc2
      obtain ⟨b1, o1, B1, d1, s, l, rfl, hbb, p0, p1, _, hnm⟩ := hv.at hin
      rw [← HCO.out] at hnm
      have hst : s = true := by rw [hnm.1]; exact decide_eq_true (by omega)
      rw [hst] at p0
      clear hst hnm hc hc2 p1 hneg hkey
      go_wp2_with fail
      refine (CO.out _).mono ?_
      rintro e w2b ⟨A0, c0, rfl, u0, hc⟩
      replace hv := hv.below hc
      replace hB2 := from_ hB2 hc
      clear hc p0
      go_wp2_with fail
      refine (CS.out _ _ _ _ _ _ _ hv u0).mono ?_
      rintro e w3 ⟨A3, c3, rfl, hv3, hc⟩
      have hB3 := from_ hB2 hc
      replace hv3 := hv3.mono (Y := since w.heap.size) (new_since hB2.size)
      clear hv u0 hc hB2
      have hf3 := HFORM.out.below hB3
      have hbx3 := hf3.box
      go_wp2
      go_loopw [31] (fun i wr => ∃ (k : Nat) (ys : List Value), k ≤ F.length ∧ i = .int .i64 (k : Int) ∧ FormAt wr B g n F.length ((F.take k).map (fun r => wo n r b key) ++ F.drop k) A c ys ∧ RowAt wr (since w.heap.size) A3 c3 n b ∧ OffB B g A w wr) (fun i _ => F.length - (intOf i).toNat)
      case atStart => exact ⟨0, xs, Nat.zero_le _, rfl, by simpa using hf3, hv3, OffB.of_below hB3 hBw⟩
      case round =>
        obtain ⟨k, ys, hk, rfl, hf, hb3, hBel⟩ := hrel
        by_cases hlt : k < F.length
        · obtain ⟨q, A4, c4, hA, hBq, hqg, hql, x0, hfz, hr⟩ := hf.row hlt
          rw [map_at hlt] at hr
          have hqw : q < w.heap.size := by
            rcases HFORM.out.shape with ⟨e1, _⟩ | ⟨b', cur, e1, _, _, ho, _⟩
            · rw [e1] at hA; cases hA
            · rw [e1] at hA
              injection hA with hA
              injection hA with hA _ _
              subst hA
              rcases Nat.lt_or_ge b' w.heap.size with g2 | g2
              · exact g2
              · rw [Array.getElem?_eq_none g2] at ho; cases ho
          have hd0 := (Below.refl wr.heap.size wr).drew
          have CW1 := Lib.hid (CW.out wr.drew A4 c4 A3 c3 k hlt _ (hr.below hd0) (hb3.below hd0))
          have hbox := hf.box
          have hs : wr.drew.cell? ⟨g, 0, none⟩ = some (.slice A F.length c) := keepC hd0 hbox
          have hs1 := keepC hd0 x0
          have hz1 : wr.drew.frozen? ⟨q, k, none⟩ = false := hfz
          have HFd := Lib.hid (hf.below hd0)
          have HBd := Lib.hid (hBel.step hd0 hBw)
          have Hb3 := Lib.hid (hb3.below hd0)
          have hgl : g < wr.drew.heap.size := lt_of_cell hs
          have HWS := Lib.hid (show w.heap.size ≤ wr.heap.size from hBel.bel.size)
          have hqg2 : ¬ (g = q) := fun e => hqg e.symm
          clear hf hb3 hBel hr hd0 hv3 hB3 hf3
          subst hA
          have HL := Lib.hid (show q < wr.drew.heap.size from hql)
          go_wp2
          first | go_region_held3 (fun w' => w'.cell? ⟨g, 0, none⟩ = some (.slice (some ⟨q, 0, none⟩) F.length c))
            (first
              | with_reducible exact hs
              | with_reducible exact hsA
              | with_reducible exact hsB)
            (first
              | (go_at_call 34; with_reducible refine CW1.out.mono ?_; rintro e w4 ⟨A5, c5, rfl, hv5, hc⟩; have hsA := keepC hc hs; have y1 := keepC hc hs1; have f1 : w4.frozen? ⟨q, k, none⟩ = false := (hc.frozen (p := ⟨q, k, none⟩) HL.out).trans hz1; have hform4 := HFd.out.below hc; have hst := FormAt.set hform4 hlt hv5 (orNew_offZ HFd.out (Nat.le_refl _)) rfl; have HFS := Lib.hid hst.1; have hsB := hst.1.box; have hb4 := Hb3.out.below hc; have HB4 := Lib.hid ((HBd.out.step hc hBw).row rfl hBq k (.slice A5 n c5)); have HR4 := Lib.hid (hb4.keep (w' := w4.setCell ⟨q, k, none⟩ (.slice A5 n c5)) (by simp [World.setCell]) (fun z hz _ => Below.heap_setCell _ _ _ _ (fun e => by have e1 : z = q := e; have hz1 := since_blk hz; omega))); clear hst hform4 hb4)) | fail
          all_goals
            have hfin := HFS.out
            rw [map_step hlt] at hfin
            have HFIN := Lib.hid hfin
            clear hfin
            go_wp2
            go_roundw
            case rel => exact ⟨k + 1, _, by omega, by go_num, HFIN.out, HR4.out, HB4.out⟩
            case measure => simp [intOf]; omega
        · obtain rfl : k = F.length := by omega
          rw [List.take_length, List.drop_length, List.append_nil] at hf
          have hf1 := hf
          have hb1 := hb3
          have hB1 := hBel
          clear hf hb3 hBel hv3 hB3 hf3 hlt hk
          rename World => wq
          go_wp2
          go_loopw [7] (fun i wr => ∃ k : Nat, k ≤ F.length ∧ i = .int .i64 (k : Int) ∧ FormAt wr B g n F.length (F.map fun r => wo n r b key) A c ys ∧ RowAt wr (since w.heap.size) A3 c3 n b ∧ OffB B g A w wr ∧ Hid (∀ j (hj : j < (F.map fun r => wo n r b key).length), j < k → pk n (F.map fun r => wo n r b key)[j] < key)) (fun i _ => F.length - (intOf i).toNat)
          case atStart => exact ⟨0, Nat.zero_le _, rfl, hf1, hb1, hB1, fun j hj h => absurd h (by omega)⟩
          case round =>
            obtain ⟨k, hk, rfl, hf, hb3, hBel, hlt9⟩ := hrel
            clear hf1 hb1 hB1
            by_cases hlt : k < F.length
            · have hkm : k < (F.map fun r => wo n r b key).length := by rw [List.length_map]; exact hlt
              have hem : (F.map fun r => wo n r b key)[k] = wo n F[k] b key := List.getElem_map _
              obtain ⟨q, A4, c4, hA, hBq, hqg, hql, x0, hfz, hr⟩ := hf.row hlt
              rw [hem] at hr
              have C5 := Lib.hid (CP.out wr A4 c4 k hlt _ hr)
              have C6 : Hid (∀ W, Calls Tryz.prog 40 #[.int .i64 ((pk n F[k] % n : Nat) : Int), .int .i64 (i : Int)] W fun e w' => e = .returned (.bool (decide (pk n F[k] < key))) ∧ W = w') := fun W => CB.out W k hlt
              have hbox := hf.box
              have Hpk := Lib.hid (hrow F[k] (List.getElem_mem hlt))
              have Hem := Lib.hid hem
              generalize hPP : pk n F[k] % n = P at *
              clear hPP hem
              subst hA
              by_cases hlk : pk n F[k] < key
              · rw [decide_eq_true hlk] at C6
                have Hnext : Hid (∀ j (hj : j < (F.map fun r => wo n r b key).length), j < k + 1 → pk n (F.map fun r => wo n r b key)[j] < key) := fun j hj hjk => by
                  rcases Nat.lt_or_ge j k with h1 | h1
                  · exact hlt9.out j hj h1
                  · obtain rfl : j = k := by omega
                    rw [Hem.out, Hpk.out]
                    exact hlk
                have HFq := Lib.hid hf
                have HRq := Lib.hid hb3
                have HBq := Lib.hid hBel
                clear hf hb3 hBel hlt9 hr hlk
                go_wp2_with fail
                refine C5.out.mono ?_
                rintro e w6 ⟨rfl, hc6⟩
                go_wp2_with fail
                refine (C6.out _).mono ?_
                rintro e w7 ⟨rfl, rfl⟩
                have hB6 := HBq.out.step hc6 hBw
                go_wp2
                go_roundw
                case rel => exact ⟨k + 1, by omega, by go_num, HFq.out.below hc6, HRq.out.below hc6, hB6, Hnext⟩
                case measure => simp [intOf]; omega
              · rw [decide_eq_false hlk] at C6
                have hend : ∀ h : k < (F.map fun r => wo n r b key).length, ¬ pk n (F.map fun r => wo n r b key)[k] < key := fun _ => by rw [Hem.out, Hpk.out]; exact hlk
                have HE := Lib.hid hend
                have HFq := Lib.hid hf
                have HRq := Lib.hid hb3
                have HBq := Lib.hid hBel
                clear hf hb3 hBel hr hlk hend
                go_wp2_with fail
                refine C5.out.mono ?_
                rintro e w6 ⟨rfl, hc6⟩
                go_wp2_with fail
                refine (C6.out _).mono ?_
                rintro e w7 ⟨rfl, rfl⟩
                have hf := HFq.out.below hc6
                have hb3 := HRq.out.below hc6
                have hBel := HBq.out.step hc6 hBw
                clear C5 C6 hc6 HFq HRq HBq x0 hbox
                have hbox0 := hf.box
                have hvb : Below w6.heap.size w6 (w6.alloc (.cells #[.slice A3 n c3] 23)) := (Below.refl _ _).alloc (Nat.le_refl _) _
                have hfW := hf.below hvb
                have hrW := hb3.below hvb
                have hboxW := hfW.box
                have hAlt : ∀ a, (some ⟨q, 0, none⟩ : Option Addr) = some a → a.block ≠ w6.heap.size := fun a ha e => by
                  rcases hf.shape with ⟨e1, _⟩ | ⟨b', cur, e1, _, _, ho, _⟩
                  · rw [e1] at ha; cases ha
                  · rw [e1] at ha
                    injection ha with ha
                    subst ha
                    have e3 : b' = w6.heap.size := e
                    rw [Array.getElem?_eq_none (by omega)] at ho
                    cases ho
                have hone : ∀ u ∈ ys, u.oneCell' = true := fun u hu => by
                  obtain ⟨j, hj, rfl⟩ := List.getElem_of_mem hu
                  have h8 := hf.own.1
                  have h9 := hf.cnt
                  obtain ⟨A9, c9, e9, _⟩ := hf.cells j (by omega)
                  rw [List.getElem?_eq_getElem hj] at e9
                  injection e9 with e9
                  rw [e9]
                  rfl
                have CI := Lib.hid (vinsert_any (k := k) (vb := w6.heap.size) (a := .slice A3 n c3) hfW.own hk (by omega) (heap_alloc_new w6 _) (fun e => by
                  injection e with e; exact hAlt _ rfl e) hone rfl (by have := hBel.bel.size; have := hvb.size; omega))
                have hBW : OffB B g _ w (w6.alloc (.cells #[.slice A3 n c3] 23)) := hBel.step hvb hBw
                have HfW := Lib.hid hfW
                have HrW := Lib.hid hrW
                have hins := insF_at (n := n) (F := F.map fun r => wo n r b key) (a := b) (key := key) (k := k) (by rw [List.length_map]; omega) (fun j hj hjk => hlt9.out j hj hjk) HE.out
                have HBW := Lib.hid hBW
                have Hins := Lib.hid hins
                have HLR := Lib.hid (show B ≤ (w6.alloc (.cells #[.slice A3 n c3] 23)).heap.size by have := hBel.bel.size; simp; omega)
                clear hone hAlt hfW hrW hBW hlt9 hf hb3 hvb hBel hins 
                go_wp2_with fail
                refine CI.out.mono ?_
                rintro e w5 ⟨v5, rfl, hown5, hg5, hf5⟩
                obtain ⟨A2, c2, rfl⟩ := own_shape hown5
                obtain ⟨hform5, hcell5, hfro5⟩ := FormAt.ins HfW.out hk HrW.out HZ.out hown5 hg5 hf5
                have hB5 : OffB B g _ w w5 := HBW.out.grown hg5 HLR.out (fun q hq => (HfW.out.own.lt q hq).1)
                have HF5 := Lib.hid hform5
                have HB6 := Lib.hid (hB5.box HfW.out.ge (.slice A2 (F.length + 1) c2))
                clear hform5 hB5 hown5 hg5 hf5 CI
                go_wp2
                go_end0
                have hput := E0.out.trans Hins.out
                refine ⟨⟨_, rfl⟩, ?_, HB6.out⟩
                rw [hput, show ((F.map fun r => wo n r b key).take k ++ b :: (F.map fun r => wo n r b key).drop k).length = F.length + 1 by rw [List.length_append, List.length_cons, List.length_take, List.length_drop, List.length_map]; omega]
                exact ⟨A2, c2, _, HF5.out⟩

            · obtain rfl : k = F.length := by omega
              have hbox0 := hf.box
              have hvb : Below wr.heap.size wr (wr.alloc (.cells #[.slice A3 n c3] 23)) := (Below.refl _ _).alloc (Nat.le_refl _) _
              have hfW := hf.below hvb
              have hrW := hb3.below hvb
              have hboxW := hfW.box
              have hAlt : ∀ a, A = some a → a.block ≠ wr.heap.size := fun a ha e => by
                rcases hf.shape with ⟨e1, _⟩ | ⟨b', cur, e1, _, _, ho, _⟩
                · rw [e1] at ha; cases ha
                · rw [e1] at ha
                  injection ha with ha
                  subst ha
                  have e3 : b' = wr.heap.size := e
                  rw [Array.getElem?_eq_none (by omega)] at ho
                  cases ho
              have hone : ∀ u ∈ ys, u.oneCell' = true := fun u hu => by
                obtain ⟨j, hj, rfl⟩ := List.getElem_of_mem hu
                have h8 := hf.own.1
                have h9 := hf.cnt
                obtain ⟨A9, c9, e9, _⟩ := hf.cells j (by omega)
                rw [List.getElem?_eq_getElem hj] at e9
                injection e9 with e9
                rw [e9]
                rfl
              have CI := Lib.hid (vinsert_any (k := F.length) (vb := wr.heap.size) (a := .slice A3 n c3) hfW.own hk (by omega) (heap_alloc_new wr _) (fun e => by
                cases hA : A with
                | none => rw [hA] at e; cases e
                | some a => rw [hA] at e; injection e with e; exact hAlt a hA e) hone rfl (by have := hBel.bel.size; have := hvb.size; omega))
              have hBW : OffB B g _ w (wr.alloc (.cells #[.slice A3 n c3] 23)) := hBel.step hvb hBw
              have HfW := Lib.hid hfW
              have HrW := Lib.hid hrW
              have hins := insF_at (n := n) (F := F.map fun r => wo n r b key) (a := b) (key := key) (k := F.length) (by rw [List.length_map]; omega) (fun j hj hjk => hlt9.out j hj hjk) (fun h => absurd h (by rw [List.length_map]; omega))
              have HBW := Lib.hid hBW
              have Hins := Lib.hid hins
              have HLR := Lib.hid (show B ≤ (wr.alloc (.cells #[.slice A3 n c3] 23)).heap.size by have := hBel.bel.size; simp; omega)
              clear hone hAlt hfW hrW hBW hlt9 hf hb3 hvb hBel hins 
              go_wp2_with fail
              refine CI.out.mono ?_
              rintro e w5 ⟨v5, rfl, hown5, hg5, hf5⟩
              obtain ⟨A2, c2, rfl⟩ := own_shape hown5
              obtain ⟨hform5, hcell5, hfro5⟩ := FormAt.ins HfW.out hk HrW.out HZ.out hown5 hg5 hf5
              have hB5 : OffB B g _ w w5 := HBW.out.grown hg5 HLR.out (fun q hq => (HfW.out.own.lt q hq).1)
              have HF5 := Lib.hid hform5
              have HB6 := Lib.hid (hB5.box HfW.out.ge (.slice A2 (F.length + 1) c2))
              clear hform5 hB5 hown5 hg5 hf5 CI
              go_wp2
              go_end0
              have hput := E0.out.trans Hins.out
              refine ⟨⟨_, rfl⟩, ?_, HB6.out⟩
              rw [hput, show ((F.map fun r => wo n r b key).take F.length ++ b :: (F.map fun r => wo n r b key).drop F.length).length = F.length + 1 by rw [List.length_append, List.length_cons, List.length_take, List.length_drop, List.length_map]; omega]
              exact ⟨A2, c2, _, HF5.out⟩


    · have hbe : b = a := by rw [hb]; exact if_neg hneg
      have HBE := Lib.hid hbe
      clear hb hbe CO CS
      go_enter Tryz.func22, Tryz.ntmps22
      go_wp2_with fail
      refine C0.out.mono ?_
      rintro e w1 ⟨A3, c3, rfl, hv, hc⟩
      go_wp2_with fail
      refine (C1.out _ _ _ _ hv).mono ?_
      rintro e w3 ⟨rfl, hc2⟩
      replace hv := hv.below hc2
      have hB3 := from_ hc hc2
      obtain ⟨b1, o1, B1, d1, s, l, rfl, hbb, p0, p1, _, hnm⟩ := hv.at hin
      rw [← HCO.out] at hnm
      have hst : s = false := by rw [hnm.1]; exact decide_eq_false (by omega)
      rw [hst] at p0
      have hv3 := hv
      rw [← HBE.out] at hv3
      clear hst hnm hc hc2 p1 hneg hkey hv
      have hf3 := HFORM.out.below hB3
      have hbx3 := hf3.box
      go_wp2
      go_loopw [31] (fun i wr => ∃ (k : Nat) (ys : List Value), k ≤ F.length ∧ i = .int .i64 (k : Int) ∧ FormAt wr B g n F.length ((F.take k).map (fun r => wo n r b key) ++ F.drop k) A c ys ∧ RowAt wr (since w.heap.size) (some ⟨b1, o1, none⟩) c3 n b ∧ OffB B g A w wr) (fun i _ => F.length - (intOf i).toNat)
      case atStart => exact ⟨0, xs, Nat.zero_le _, rfl, by simpa using hf3, hv3, OffB.of_below hB3 hBw⟩
      case round =>
        obtain ⟨k, ys, hk, rfl, hf, hb3, hBel⟩ := hrel
        by_cases hlt : k < F.length
        · obtain ⟨q, A4, c4, hA, hBq, hqg, hql, x0, hfz, hr⟩ := hf.row hlt
          rw [map_at hlt] at hr
          have hqw : q < w.heap.size := by
            rcases HFORM.out.shape with ⟨e1, _⟩ | ⟨b', cur, e1, _, _, ho, _⟩
            · rw [e1] at hA; cases hA
            · rw [e1] at hA
              injection hA with hA
              injection hA with hA _ _
              subst hA
              rcases Nat.lt_or_ge b' w.heap.size with g2 | g2
              · exact g2
              · rw [Array.getElem?_eq_none g2] at ho; cases ho
          have hd0 := (Below.refl wr.heap.size wr).drew
          have CW1 := Lib.hid (CW.out wr.drew A4 c4 _ c3 k hlt _ (hr.below hd0) (hb3.below hd0))
          have hbox := hf.box
          have hs : wr.drew.cell? ⟨g, 0, none⟩ = some (.slice A F.length c) := keepC hd0 hbox
          have hs1 := keepC hd0 x0
          have hz1 : wr.drew.frozen? ⟨q, k, none⟩ = false := hfz
          have HFd := Lib.hid (hf.below hd0)
          have HBd := Lib.hid (hBel.step hd0 hBw)
          have Hb3 := Lib.hid (hb3.below hd0)
          have hgl : g < wr.drew.heap.size := lt_of_cell hs
          have HWS := Lib.hid (show w.heap.size ≤ wr.heap.size from hBel.bel.size)
          have hqg2 : ¬ (g = q) := fun e => hqg e.symm
          clear hf hb3 hBel hr hd0 hv3 hB3 hf3
          subst hA
          have HL := Lib.hid (show q < wr.drew.heap.size from hql)
          go_wp2
          first | go_region_held3 (fun w' => w'.cell? ⟨g, 0, none⟩ = some (.slice (some ⟨q, 0, none⟩) F.length c))
            (first
              | with_reducible exact hs
              | with_reducible exact hsA
              | with_reducible exact hsB)
            (first
              | (go_at_call 34; with_reducible refine CW1.out.mono ?_; rintro e w4 ⟨A5, c5, rfl, hv5, hc⟩; have hsA := keepC hc hs; have y1 := keepC hc hs1; have f1 : w4.frozen? ⟨q, k, none⟩ = false := (hc.frozen (p := ⟨q, k, none⟩) HL.out).trans hz1; have hform4 := HFd.out.below hc; have hst := FormAt.set hform4 hlt hv5 (orNew_offZ HFd.out (Nat.le_refl _)) rfl; have HFS := Lib.hid hst.1; have hsB := hst.1.box; have hb4 := Hb3.out.below hc; have HB4 := Lib.hid ((HBd.out.step hc hBw).row rfl hBq k (.slice A5 n c5)); have HR4 := Lib.hid (hb4.keep (w' := w4.setCell ⟨q, k, none⟩ (.slice A5 n c5)) (by simp [World.setCell]) (fun z hz _ => Below.heap_setCell _ _ _ _ (fun e => by have e1 : z = q := e; have hz1 := since_blk hz; omega))); clear hst hform4 hb4)) | fail
          all_goals
            have hfin := HFS.out
            rw [map_step hlt] at hfin
            have HFIN := Lib.hid hfin
            clear hfin
            go_wp2
            go_roundw
            case rel => exact ⟨k + 1, _, by omega, by go_num, HFIN.out, HR4.out, HB4.out⟩
            case measure => simp [intOf]; omega
        · obtain rfl : k = F.length := by omega
          rw [List.take_length, List.drop_length, List.append_nil] at hf
          have hf1 := hf
          have hb1 := hb3
          have hB1 := hBel
          clear hf hb3 hBel hv3 hB3 hf3 hlt hk
          rename World => wq
          go_wp2
          go_loopw [7] (fun i wr => ∃ k : Nat, k ≤ F.length ∧ i = .int .i64 (k : Int) ∧ FormAt wr B g n F.length (F.map fun r => wo n r b key) A c ys ∧ RowAt wr (since w.heap.size) (some ⟨b1, o1, none⟩) c3 n b ∧ OffB B g A w wr ∧ Hid (∀ j (hj : j < (F.map fun r => wo n r b key).length), j < k → pk n (F.map fun r => wo n r b key)[j] < key)) (fun i _ => F.length - (intOf i).toNat)
          case atStart => exact ⟨0, Nat.zero_le _, rfl, hf1, hb1, hB1, fun j hj h => absurd h (by omega)⟩
          case round =>
            obtain ⟨k, hk, rfl, hf, hb3, hBel, hlt9⟩ := hrel
            clear hf1 hb1 hB1
            by_cases hlt : k < F.length
            · have hkm : k < (F.map fun r => wo n r b key).length := by rw [List.length_map]; exact hlt
              have hem : (F.map fun r => wo n r b key)[k] = wo n F[k] b key := List.getElem_map _
              obtain ⟨q, A4, c4, hA, hBq, hqg, hql, x0, hfz, hr⟩ := hf.row hlt
              rw [hem] at hr
              have C5 := Lib.hid (CP.out wr A4 c4 k hlt _ hr)
              have C6 : Hid (∀ W, Calls Tryz.prog 40 #[.int .i64 ((pk n F[k] % n : Nat) : Int), .int .i64 (i : Int)] W fun e w' => e = .returned (.bool (decide (pk n F[k] < key))) ∧ W = w') := fun W => CB.out W k hlt
              have hbox := hf.box
              have Hpk := Lib.hid (hrow F[k] (List.getElem_mem hlt))
              have Hem := Lib.hid hem
              generalize hPP : pk n F[k] % n = P at *
              clear hPP hem
              subst hA
              by_cases hlk : pk n F[k] < key
              · rw [decide_eq_true hlk] at C6
                have Hnext : Hid (∀ j (hj : j < (F.map fun r => wo n r b key).length), j < k + 1 → pk n (F.map fun r => wo n r b key)[j] < key) := fun j hj hjk => by
                  rcases Nat.lt_or_ge j k with h1 | h1
                  · exact hlt9.out j hj h1
                  · obtain rfl : j = k := by omega
                    rw [Hem.out, Hpk.out]
                    exact hlk
                have HFq := Lib.hid hf
                have HRq := Lib.hid hb3
                have HBq := Lib.hid hBel
                clear hf hb3 hBel hlt9 hr hlk
                go_wp2_with fail
                refine C5.out.mono ?_
                rintro e w6 ⟨rfl, hc6⟩
                go_wp2_with fail
                refine (C6.out _).mono ?_
                rintro e w7 ⟨rfl, rfl⟩
                have hB6 := HBq.out.step hc6 hBw
                go_wp2
                go_roundw
                case rel => exact ⟨k + 1, by omega, by go_num, HFq.out.below hc6, HRq.out.below hc6, hB6, Hnext⟩
                case measure => simp [intOf]; omega
              · rw [decide_eq_false hlk] at C6
                have hend : ∀ h : k < (F.map fun r => wo n r b key).length, ¬ pk n (F.map fun r => wo n r b key)[k] < key := fun _ => by rw [Hem.out, Hpk.out]; exact hlk
                have HE := Lib.hid hend
                have HFq := Lib.hid hf
                have HRq := Lib.hid hb3
                have HBq := Lib.hid hBel
                clear hf hb3 hBel hr hlk hend
                go_wp2_with fail
                refine C5.out.mono ?_
                rintro e w6 ⟨rfl, hc6⟩
                go_wp2_with fail
                refine (C6.out _).mono ?_
                rintro e w7 ⟨rfl, rfl⟩
                have hf := HFq.out.below hc6
                have hb3 := HRq.out.below hc6
                have hBel := HBq.out.step hc6 hBw
                clear C5 C6 hc6 HFq HRq HBq x0 hbox
                have hbox0 := hf.box
                have hvb : Below w6.heap.size w6 (w6.alloc (.cells #[.slice (some ⟨b1, o1, none⟩) n c3] 23)) := (Below.refl _ _).alloc (Nat.le_refl _) _
                have hfW := hf.below hvb
                have hrW := hb3.below hvb
                have hboxW := hfW.box
                have hAlt : ∀ a, (some ⟨q, 0, none⟩ : Option Addr) = some a → a.block ≠ w6.heap.size := fun a ha e => by
                  rcases hf.shape with ⟨e1, _⟩ | ⟨b', cur, e1, _, _, ho, _⟩
                  · rw [e1] at ha; cases ha
                  · rw [e1] at ha
                    injection ha with ha
                    subst ha
                    have e3 : b' = w6.heap.size := e
                    rw [Array.getElem?_eq_none (by omega)] at ho
                    cases ho
                have hone : ∀ u ∈ ys, u.oneCell' = true := fun u hu => by
                  obtain ⟨j, hj, rfl⟩ := List.getElem_of_mem hu
                  have h8 := hf.own.1
                  have h9 := hf.cnt
                  obtain ⟨A9, c9, e9, _⟩ := hf.cells j (by omega)
                  rw [List.getElem?_eq_getElem hj] at e9
                  injection e9 with e9
                  rw [e9]
                  rfl
                have CI := Lib.hid (vinsert_any (k := k) (vb := w6.heap.size) (a := .slice (some ⟨b1, o1, none⟩) n c3) hfW.own hk (by omega) (heap_alloc_new w6 _) (fun e => by
                  injection e with e; exact hAlt _ rfl e) hone rfl (by have := hBel.bel.size; have := hvb.size; omega))
                have hBW : OffB B g _ w (w6.alloc (.cells #[.slice (some ⟨b1, o1, none⟩) n c3] 23)) := hBel.step hvb hBw
                have HfW := Lib.hid hfW
                have HrW := Lib.hid hrW
                have hins := insF_at (n := n) (F := F.map fun r => wo n r b key) (a := b) (key := key) (k := k) (by rw [List.length_map]; omega) (fun j hj hjk => hlt9.out j hj hjk) HE.out
                have HBW := Lib.hid hBW
                have Hins := Lib.hid hins
                have HLR := Lib.hid (show B ≤ (w6.alloc (.cells #[.slice (some ⟨b1, o1, none⟩) n c3] 23)).heap.size by have := hBel.bel.size; simp; omega)
                clear hone hAlt hfW hrW hBW hlt9 hf hb3 hvb hBel hins 
                go_wp2_with fail
                refine CI.out.mono ?_
                rintro e w5 ⟨v5, rfl, hown5, hg5, hf5⟩
                obtain ⟨A2, c2, rfl⟩ := own_shape hown5
                obtain ⟨hform5, hcell5, hfro5⟩ := FormAt.ins HfW.out hk HrW.out HZ.out hown5 hg5 hf5
                have hB5 : OffB B g _ w w5 := HBW.out.grown hg5 HLR.out (fun q hq => (HfW.out.own.lt q hq).1)
                have HF5 := Lib.hid hform5
                have HB6 := Lib.hid (hB5.box HfW.out.ge (.slice A2 (F.length + 1) c2))
                clear hform5 hB5 hown5 hg5 hf5 CI
                go_wp2
                go_end0
                have hput := E0.out.trans Hins.out
                refine ⟨⟨_, rfl⟩, ?_, HB6.out⟩
                rw [hput, show ((F.map fun r => wo n r b key).take k ++ b :: (F.map fun r => wo n r b key).drop k).length = F.length + 1 by rw [List.length_append, List.length_cons, List.length_take, List.length_drop, List.length_map]; omega]
                exact ⟨A2, c2, _, HF5.out⟩

            · obtain rfl : k = F.length := by omega
              have hbox0 := hf.box
              have hvb : Below wr.heap.size wr (wr.alloc (.cells #[.slice (some ⟨b1, o1, none⟩) n c3] 23)) := (Below.refl _ _).alloc (Nat.le_refl _) _
              have hfW := hf.below hvb
              have hrW := hb3.below hvb
              have hboxW := hfW.box
              have hAlt : ∀ a, A = some a → a.block ≠ wr.heap.size := fun a ha e => by
                rcases hf.shape with ⟨e1, _⟩ | ⟨b', cur, e1, _, _, ho, _⟩
                · rw [e1] at ha; cases ha
                · rw [e1] at ha
                  injection ha with ha
                  subst ha
                  have e3 : b' = wr.heap.size := e
                  rw [Array.getElem?_eq_none (by omega)] at ho
                  cases ho
              have hone : ∀ u ∈ ys, u.oneCell' = true := fun u hu => by
                obtain ⟨j, hj, rfl⟩ := List.getElem_of_mem hu
                have h8 := hf.own.1
                have h9 := hf.cnt
                obtain ⟨A9, c9, e9, _⟩ := hf.cells j (by omega)
                rw [List.getElem?_eq_getElem hj] at e9
                injection e9 with e9
                rw [e9]
                rfl
              have CI := Lib.hid (vinsert_any (k := F.length) (vb := wr.heap.size) (a := .slice (some ⟨b1, o1, none⟩) n c3) hfW.own hk (by omega) (heap_alloc_new wr _) (fun e => by
                cases hA : A with
                | none => rw [hA] at e; cases e
                | some a => rw [hA] at e; injection e with e; exact hAlt a hA e) hone rfl (by have := hBel.bel.size; have := hvb.size; omega))
              have hBW : OffB B g _ w (wr.alloc (.cells #[.slice (some ⟨b1, o1, none⟩) n c3] 23)) := hBel.step hvb hBw
              have HfW := Lib.hid hfW
              have HrW := Lib.hid hrW
              have hins := insF_at (n := n) (F := F.map fun r => wo n r b key) (a := b) (key := key) (k := F.length) (by rw [List.length_map]; omega) (fun j hj hjk => hlt9.out j hj hjk) (fun h => absurd h (by rw [List.length_map]; omega))
              have HBW := Lib.hid hBW
              have Hins := Lib.hid hins
              have HLR := Lib.hid (show B ≤ (wr.alloc (.cells #[.slice (some ⟨b1, o1, none⟩) n c3] 23)).heap.size by have := hBel.bel.size; simp; omega)
              clear hone hAlt hfW hrW hBW hlt9 hf hb3 hvb hBel hins 
              go_wp2_with fail
              refine CI.out.mono ?_
              rintro e w5 ⟨v5, rfl, hown5, hg5, hf5⟩
              obtain ⟨A2, c2, rfl⟩ := own_shape hown5
              obtain ⟨hform5, hcell5, hfro5⟩ := FormAt.ins HfW.out hk HrW.out HZ.out hown5 hg5 hf5
              have hB5 : OffB B g _ w w5 := HBW.out.grown hg5 HLR.out (fun q hq => (HfW.out.own.lt q hq).1)
              have HF5 := Lib.hid hform5
              have HB6 := Lib.hid (hB5.box HfW.out.ge (.slice A2 (F.length + 1) c2))
              clear hform5 hB5 hown5 hg5 hf5 CI
              go_wp2
              go_end0
              have hput := E0.out.trans Hins.out
              refine ⟨⟨_, rfl⟩, ?_, HB6.out⟩
              rw [hput, show ((F.map fun r => wo n r b key).take F.length ++ b :: (F.map fun r => wo n r b key).drop F.length).length = F.length + 1 by rw [List.length_append, List.length_cons, List.length_take, List.length_drop, List.length_map]; omega]
              exact ⟨A2, c2, _, HF5.out⟩


end Go.Proofs.YtajmijnoikkffaaGreat

namespace Go.Proofs.YtajmijnoikkffaaGreat
open Go.RowKit
set_option linter.unusedVariables false
set_option linter.unusedSimpArgs false

/-- How long the numbers of an echelon form may grow: the bound that the walks ask for. -/
def bigF (B n : Nat) : Prop := B + n * (szF B n + 1) + szF B n + 1 ≤ 10000000000

theorem formF_mono {n : Nat} : ∀ (l F : List (List Int)), F.length ≤ (l.foldl (putF n) F).length := by
  intro l
  induction l with
  | nil => intro F; exact Nat.le_refl _
  | cons x t ih =>
    intro F
    refine Nat.le_trans ?_ (ih (putF n F x))
    rw [putF_length]
    split <;> omega
theorem formF_take {n : Nat} (l : List (List Int)) (k : Nat) : ((l.take k).foldl (putF n) []).length ≤ (formF n l).length := by
  have h := formF_mono (n := n) (l.drop k) ((l.take k).foldl (putF n) [])
  rwa [← List.foldl_append, List.take_append_drop] at h
theorem szF_up {B C : Nat} (h : B ≤ C) : ∀ j, szF B j ≤ szF C j := by
  intro j
  induction j with
  | zero => exact Nat.le_refl _
  | succ j ih =>
    rw [szF, szF]
    have := Nat.mul_le_mul_left j (show szF B j + 1 ≤ szF C j + 1 by omega)
    omega
theorem bigF_down {B C n m : Nat} (h : bigF C m) (hB : B ≤ C) (hn : n ≤ m) : bigF B n := by
  unfold bigF at h ⊢
  have h1 : szF B n ≤ szF C m := Nat.le_trans (szF_up hB n) (szF_mono hn)
  have h2 : n * (szF B n + 1) ≤ m * (szF C m + 1) := Nat.mul_le_mul hn (by omega)
  omega

set_option maxRecDepth 100000 in
set_option maxHeartbeats 1000000 in
theorem formed_any {w : World} {Z : Zone} {A : Option Addr} {c n B : Nat} {l : List (List Int)} (hl : MatN w Z A c n l) (hn : n ≤ 64) (hs : ∀ x ∈ l, SzV B x) (hbig : bigF B (formF n l).length) :
    Calls Tryz.prog 15 #[.slice A l.length c] w fun e w' => ∃ g, e = .returned (.pointer (some ⟨g, 0, none⟩)) ∧ (∃ A2 c2 xs, FormAt w' w.heap.size g n (formF n l).length (formF n l) A2 c2 xs) ∧ Below w.heap.size w w' := by
  have hlen := hl.len
  have hal : Below w.heap.size w (w.alloc (.cells #[.slice none 0 0] 50)) := (Below.refl _ _).alloc (Nat.le_refl _) _
  have hb0 : FormAt (w.alloc (.cells #[.slice none 0 0] 50)) w.heap.size w.heap.size n 0 [] none 0 [] := by
    have x := Boxed.new w 50 (.slice none 0 0)
    refine ⟨rfl, x.cell, x.frozen, Nat.le_refl _, World.ownsRow_nil _ _ _ _, fun a h => by (cases h), by simp, fun j h => absurd h (by simp)⟩
  go_enter Tryz.func15, Tryz.ntmps15
  go_wp2
  go_loopw [13] (fun i wr => ∃ (k : Nat), k ≤ l.length ∧ i = .int .i64 (k : Int) ∧ (∃ (F : List (List Int)) (A2 : Option Addr) (c2 : Nat) (xs : List Value), F = (l.take k).foldl (putF n) [] ∧ Inv n F ∧ (∀ r ∈ F, SzV (szF B F.length) r) ∧ FormAt wr w.heap.size w.heap.size n F.length F A2 c2 xs) ∧ Below w.heap.size w wr) (fun i _ => l.length - (intOf i).toNat)
  case atStart => exact ⟨0, Nat.zero_le _, rfl, ⟨[], none, 0, [], rfl, Inv.nil n, by simp, hb0⟩, hal⟩
  case round =>
    obtain ⟨k, hk, rfl, ⟨F, A2, c2, xs, hF, hi, hsz, hform⟩, hbel⟩ := hrel
    clear hb0 hal
    by_cases hlt : k < l.length
    · obtain ⟨b, o, B2, d2, rfl, hbb, x0, hr⟩ := (hl.below hbel).at hlt
      have hx := hl.1 _ (List.getElem_mem hlt)
      have hFn : F.length ≤ (formF n l).length := by rw [hF]; exact formF_take l k
      have hmn : szF B F.length ≤ szF B (formF n l).length := szF_mono hFn
      have hmul : F.length * (szF B F.length + 1) ≤ (formF n l).length * (szF B (formF n l).length + 1) := Nat.mul_le_mul hFn (by omega)
      have C1 := Lib.hid (put_any (w := wr) hform hi hr hn (hs _ (List.getElem_mem hlt)) hsz (by unfold bigF at hbig; omega) hbel.size)
      have hnext : putF n F l[k] = (l.take (k + 1)).foldl (putF n) [] := by
        rw [hF, List.take_succ_eq_append_getElem hlt, List.foldl_append]
        rfl
      have HN := Lib.hid hnext
      have HI := Lib.hid (putF_inv hi hx)
      have HS := Lib.hid (szv_putF (n := n) (hs _ (List.getElem_mem hlt)) hsz)
      have HB := Lib.hid hbel
      clear hform hi hr hsz hx hFn hmn hmul hnext hbel hF hs hbig hl
      go_wp2_with fail
      refine C1.out.mono ?_
      rintro e w2 ⟨⟨v, rfl⟩, ⟨A3, c3, xs3, hf3⟩, hc⟩
      have hB2 := HB.out.trans hc.bel
      have HF3 := Lib.hid hf3
      clear hf3 hc
      go_wp2
      go_roundw
      case rel => exact ⟨k + 1, by omega, by go_num, ⟨_, _, _, _, HN.out, HI.out, HS.out, HF3.out⟩, hB2⟩
      case measure => simp [intOf]; omega
    · obtain rfl : k = l.length := by omega
      rw [List.take_length] at hF
      have hfin : FormAt wr w.heap.size w.heap.size n (formF n l).length (formF n l) A2 c2 xs := by
        rw [show formF n l = F from hF.symm]
        exact hform
      have HFin := Lib.hid hfin
      clear hfin hform hF hi hsz
      go_wp2
      go_ret
      exact ⟨_, rfl, ⟨_, _, _, HFin.out⟩, hbel⟩

set_option maxRecDepth 100000 in
set_option maxHeartbeats 1000000 in
theorem echelon_err {w : World} {Z : Zone} {A : Option Addr} {c : Nat} {pss : Vecs} {E : Int} (h : MatAt w Z A c pss) (hE : errR pss = E) (hE2 : E = 4 ∨ E = 8 ∨ E = 70) :
    Calls Tryz.prog 24 #[.slice A pss.length c] w fun e w' => e = .returned (.tuple #[.slice none 0 0, .int .i64 E]) ∧ Below w.heap.size w w' := by
  have hck := rowscheck_any h
  rw [hE] at hck
  have Hck := Lib.hid hck
  have hlen := h.len
  clear hck h hE
  generalize pss.length = n at *
  rcases hE2 with rfl | rfl | rfl
  all_goals
    go_enter Tryz.func24, Tryz.ntmps24
    go_wp2_with fail
    refine Hck.out.mono ?_
    rintro e w1 ⟨rfl, hc⟩
    go_wp2
    go_ret2
    exact ⟨rfl, hc⟩

/-- The error of rows of numbers. -/
theorem errR_enc {n : Nat} {l : List (List Int)} (hl : ∀ x ∈ l, x.length = n) (h0 : 0 < n) (hn : n ≤ 64) (hm : l.length ≤ 1024) : errR (l.map encR) = 0 := by
  refine errR_good (by simpa using hm) (okR_iff.2 fun j hj => ?_) fun j hj h0 => ?_
  · rw [List.getElem_map]
    have hj2 : j < l.length := by simpa using hj
    have e := hl l[j] (List.getElem_mem hj2)
    unfold okR1
    rw [(encR_nm l[j]).okV (by rw [encR_length]; omega), encR_length, decide_eq_true (by omega)]
    rfl
  · rw [List.getElem_map, List.getElem_map, encR_length, encR_length, hl _ (List.getElem_mem _), hl _ (List.getElem_mem _)]

set_option maxRecDepth 100000 in
set_option maxHeartbeats 1000000 in
theorem echelon_ok {w : World} {Z : Zone} {A : Option Addr} {c n B : Nat} {l : List (List Int)} (hl : MatN w Z A c n l) (h0 : 0 < n) (hn : n ≤ 64) (hm : l.length ≤ 1024) (hs : ∀ x ∈ l, SzV B x) (hbig : bigF B (formF n l).length) :
    Calls Tryz.prog 24 #[.slice A l.length c] w fun e w' => ∃ A2 c2, e = .returned (.tuple #[.slice A2 (formF n l).length c2, .int .i64 0]) ∧ MatN w' old A2 c2 n (formF n l) ∧ Below w.heap.size w w' := by
  have hck := rowscheck_any hl.2
  rw [errR_enc hl.1 h0 hn hm, List.length_map] at hck
  have Hck := Lib.hid hck
  have C1 : Hid (∀ W, Below w.heap.size w W → Calls Tryz.prog 15 #[.slice A l.length c] W fun e w' => ∃ g, e = .returned (.pointer (some ⟨g, 0, none⟩)) ∧ (∃ A2 c2 xs, FormAt w' W.heap.size g n (formF n l).length (formF n l) A2 c2 xs) ∧ Below W.heap.size W w') := fun W g => formed_any (hl.below g) hn hs hbig
  have hlen := hl.len
  clear hck hl hs hbig
  generalize hN : l.length = N at *
  clear hN
  go_enter Tryz.func24, Tryz.ntmps24
  go_wp2_with fail
  refine Hck.out.mono ?_
  rintro e w1 ⟨rfl, hc⟩
  go_wp2_with fail
  refine (C1.out _ hc).mono ?_
  rintro e w2 ⟨g, rfl, ⟨A2, c2, xs, hf⟩, hc2⟩
  have hB := from_ hc hc2
  have hbox := hf.box
  have HM := Lib.hid (hf.mat.mono (le_old _))
  clear hf hc hc2
  go_wp2
  go_ret2
  exact ⟨_, _, rfl, HM.out, hB⟩

set_option maxRecDepth 100000 in
set_option maxHeartbeats 1000000 in
theorem rank_err {w : World} {Z : Zone} {A : Option Addr} {c : Nat} {pss : Vecs} {E : Int} (h : MatAt w Z A c pss) (hE : errR pss = E) (hE2 : E = 4 ∨ E = 8 ∨ E = 70) :
    Calls Tryz.prog 8 #[.slice A pss.length c] w fun e w' => e = .returned (.tuple #[.int .i64 0, .int .i64 E]) ∧ Below w.heap.size w w' := by
  have Hc := Lib.hid (echelon_err h hE hE2)
  have hlen := h.len
  clear h hE hE2
  generalize pss.length = n at *
  go_enter Tryz.func8, Tryz.ntmps8
  go_wp2_with fail
  refine Hc.out.mono ?_
  rintro e w1 ⟨rfl, hc⟩
  go_wp2
  go_ret2
  exact ⟨rfl, hc⟩

set_option maxRecDepth 100000 in
set_option maxHeartbeats 1000000 in
theorem rank_ok {w : World} {Z : Zone} {A : Option Addr} {c n B : Nat} {l : List (List Int)} (hl : MatN w Z A c n l) (h0 : 0 < n) (hn : n ≤ 64) (hm : l.length ≤ 1024) (hs : ∀ x ∈ l, SzV B x) (hbig : bigF B (formF n l).length) :
    Calls Tryz.prog 8 #[.slice A l.length c] w fun e w' => e = .returned (.tuple #[.int .i64 ((formF n l).length : Int), .int .i64 0]) ∧ Below w.heap.size w w' := by
  have Hc := Lib.hid (echelon_ok hl h0 hn hm hs hbig)
  have hlen := hl.len
  clear hl h0 hs hbig
  generalize hN : l.length = N at *
  clear hN
  go_enter Tryz.func8, Tryz.ntmps8
  go_wp2_with fail
  refine Hc.out.mono ?_
  rintro e w1 ⟨A2, c2, rfl, hm2, hc⟩
  have hl2 := hm2.len
  clear hm2
  go_wp2
  go_ret2
  exact ⟨rfl, hc⟩

end Go.Proofs.YtajmijnoikkffaaGreat

namespace Go.Proofs.YtajmijnoikkffaaGreat
open Go.RowKit
set_option linter.unusedVariables false
set_option linter.unusedSimpArgs false

theorem rof3 (w : World) (g : Nat) (hg : w.heap.size = g) (x y z : Int) (hx : -9223372036854775808 ≤ x ∧ x ≤ 9223372036854775807) (hy : -9223372036854775808 ≤ y ∧ y ≤ 9223372036854775807) (hz : -9223372036854775808 ≤ z ∧ z ≤ 9223372036854775807) :
    Calls Tryz.prog 4 #[.slice (some ⟨g, 0, none⟩) 3 3] (w.alloc (.cells #[.int .i64 x, .int .i64 y, .int .i64 z] 3)) fun e w' => ∃ A c, e = .returned (.slice A 3 c) ∧ RowAt w' old A c 3 [x, y, z] ∧ Below w.heap.size w w' := by
  subst hg
  refine (vof_n (ints3 w x y z 3 hx hy hz) (encR_nm [x, y, z]) (by simp)).mono ?_
  rintro e w' ⟨A, c, rfl, hv, hb⟩
  exact ⟨A, c, by rw [encR_length]; rfl, ⟨rfl, hv⟩, from_ ((Below.refl _ _).alloc (Nat.le_refl _) _) hb⟩
theorem rof2 (w : World) (g : Nat) (hg : w.heap.size = g) (x y : Int) (hx : -9223372036854775808 ≤ x ∧ x ≤ 9223372036854775807) (hy : -9223372036854775808 ≤ y ∧ y ≤ 9223372036854775807) :
    Calls Tryz.prog 4 #[.slice (some ⟨g, 0, none⟩) 2 2] (w.alloc (.cells #[.int .i64 x, .int .i64 y] 3)) fun e w' => ∃ A c, e = .returned (.slice A 2 c) ∧ RowAt w' old A c 2 [x, y] ∧ Below w.heap.size w w' := by
  subst hg
  refine (vof_n (ints2 w x y 3 hx hy) (encR_nm [x, y]) (by simp)).mono ?_
  rintro e w' ⟨A, c, rfl, hv, hb⟩
  exact ⟨A, c, by rw [encR_length]; rfl, ⟨rfl, hv⟩, from_ ((Below.refl _ _).alloc (Nat.le_refl _) _) hb⟩

theorem matN_nil (w : World) (Z : Zone) (n : Nat) : MatN w Z none 0 n [] := ⟨by simp, MatAt.nil _ _⟩
theorem matN_one {w : World} {Z : Zone} {A : Option Addr} {c n : Nat} {r : List Int} (t : TypeId) (h : RowAt w Z A c n r) : MatN (w.alloc (.cells #[.slice A n c] t)) Z (some ⟨w.heap.size, 0, none⟩) 1 n [r] := by
  have hb : Below w.heap.size w (w.alloc (.cells #[.slice A n c] t)) := (Below.refl _ _).alloc (Nat.le_refl _) _
  refine ⟨by simpa using h.1, by simp, by omega, fun _ => ⟨w.heap.size, 0, rfl, by simp, fun j hj => ?_⟩⟩
  match j, hj with
  | 0, _ =>
    refine ⟨A, c, ?_, h.2.below hb⟩
    show (w.alloc _).cell? ⟨w.heap.size, 0, none⟩ = some (.slice A (encR r).length c)
    rw [encR_length, h.1]
    exact cell_newest rfl rfl
theorem matN_two {w : World} {Z : Zone} {A B : Option Addr} {c d n : Nat} {r s : List Int} (t : TypeId) (h : RowAt w Z A c n r) (h2 : RowAt w Z B d n s) : MatN (w.alloc (.cells #[.slice A n c, .slice B n d] t)) Z (some ⟨w.heap.size, 0, none⟩) 2 n [r, s] := by
  have hb : Below w.heap.size w (w.alloc (.cells #[.slice A n c, .slice B n d] t)) := (Below.refl _ _).alloc (Nat.le_refl _) _
  refine ⟨fun x hx => ?_, by simp, by omega, fun _ => ⟨w.heap.size, 0, rfl, by simp, fun j hj => ?_⟩⟩
  · simp only [List.mem_cons, List.not_mem_nil, or_false] at hx
    rcases hx with rfl | rfl
    · exact h.1
    · exact h2.1
  match j, hj with
  | 0, _ =>
    refine ⟨A, c, ?_, h.2.below hb⟩
    show (w.alloc _).cell? ⟨w.heap.size, 0, none⟩ = some (.slice A (encR r).length c)
    rw [encR_length, h.1]
    exact cell_newest rfl rfl
  | 1, _ =>
    refine ⟨B, d, ?_, h2.2.below hb⟩
    show (w.alloc _).cell? ⟨w.heap.size, 1, none⟩ = some (.slice B (encR s).length d)
    rw [encR_length, h2.1]
    exact cell_newest rfl rfl

theorem mat_one {w : World} {Z : Zone} {A : Option Addr} {c : Nat} {ps : List (Bool × List Nat)} (t : TypeId) (h : VecAt w Z A c ps) : MatAt (w.alloc (.cells #[.slice A ps.length c] t)) Z (some ⟨w.heap.size, 0, none⟩) 1 [ps] := by
  have hb : Below w.heap.size w (w.alloc (.cells #[.slice A ps.length c] t)) := (Below.refl _ _).alloc (Nat.le_refl _) _
  refine ⟨by simp, by omega, fun _ => ⟨w.heap.size, 0, rfl, by simp, fun j hj => ?_⟩⟩
  match j, hj with
  | 0, _ => exact ⟨A, c, cell_newest rfl rfl, h.below hb⟩

/-- The numbers of rows of words. -/
def numR (ps : List (Bool × List Nat)) : List Int := ps.map fun p => zof p.1 p.2
theorem numR_enc {ps : List (Bool × List Nat)} (h : okV ps = true) (hs : ∀ p ∈ ps, Small p.2) : encR (numR ps) = ps := (NmV.ok h hs).symm
theorem numR_length (ps : List (Bool × List Nat)) : (numR ps).length = ps.length := by simp [numR]
theorem MatAt.small {w : World} {Z : Zone} {A : Option Addr} {c : Nat} {pss : Vecs} (h : MatAt w Z A c pss) : ∀ ps ∈ pss, ∀ p ∈ ps, Small p.2 := fun ps hp => by
  obtain ⟨j, hj, rfl⟩ := List.getElem_of_mem hp
  obtain ⟨_, _, B, d, _, _, _, hv⟩ := h.at hj
  exact hv.small
theorem enc_szv {x : List Int} {K : Nat} (h : ∀ p ∈ encR x, p.2.length ≤ K) : SzV K x := fun a ha => h (decide (a < 0), limbs a.natAbs) (List.mem_map.2 ⟨a, ha, rfl⟩)
/-- A list of rows that may be, as numbers. -/
theorem mat_nums {w : World} {Z : Zone} {A : Option Addr} {c K : Nat} {pss : Vecs} (h : MatAt w Z A c pss) (h0 : errR pss = 0) (hK : ∀ ps ∈ pss, ∀ p ∈ ps, p.2.length ≤ K) :
    ∃ l : List (List Int), pss = l.map encR ∧ (∀ x ∈ l, SzV K x) ∧ ∀ n, (0 < pss.length → (pss.headD []).length = n) → MatN w Z A c n l := by
  obtain ⟨h1, h2⟩ := errR_zero h0
  have e : (pss.map numR).map encR = pss := by
    rw [List.map_map]
    refine (List.map_congr_left fun ps hp => ?_).trans (List.map_id _)
    exact numR_enc (h2 ps hp).1 (h.small ps hp)
  refine ⟨pss.map numR, e.symm, fun x hx => ?_, fun n hn => ⟨fun x hx => ?_, by rw [e]; exact h⟩⟩
  · obtain ⟨ps, hp, rfl⟩ := List.mem_map.1 hx
    refine enc_szv ?_
    rw [numR_enc (h2 ps hp).1 (h.small ps hp)]
    exact hK ps hp
  · obtain ⟨ps, hp, rfl⟩ := List.mem_map.1 hx
    rw [numR_length, (h2 ps hp).2.2]
    exact hn (List.length_pos_of_mem hp)

end Go.Proofs.YtajmijnoikkffaaGreat

namespace Go.Proofs.YtajmijnoikkffaaGreat
open Go.RowKit
set_option linter.unusedVariables false
set_option linter.unusedSimpArgs false

set_option maxRecDepth 100000 in
set_option maxHeartbeats 1000000 in
theorem kernel1_any {w : World} {Z : Zone} {A : Option Addr} {c n k b0 : Nat} {x : List Int} (h : RowAt w Z A c n x) (hp : pk n x ≠ 0) (k1 : 1 ≤ k) (k2 : k ≤ n) (hat : w.cell? ⟨b0, 0, none⟩ = some (.int .i64 ((k % n : Nat) : Int))) :
    Calls Tryz.prog 20 #[.slice A n c, .pointer (some ⟨b0, 0, none⟩)] w fun e w' => e = .returned (.bool (decide (pk n x = k))) ∧ Below w.heap.size w w' := by
  have hd : Below w.heap.size w w.drew := (Below.refl _ _).drew
  have C := pivot_any (h.below hd)
  rw [show pvI n x = ((pk n x % n : Nat) : Int) from if_neg hp] at C
  have hm : pk n x % n = k % n → pk n x = k := fun e => key_mod (by omega) pk_le k1 k2 e
  have s0 := keepC hd hat
  have hlen := h.len
  have HC := Lib.hid C
  have HD := Lib.hid hd
  clear h C hd hat
  by_cases he : pk n x = k
  · rw [decide_eq_true he]
    rw [he] at HC
    have t0 : (((k % n : Nat) : Int) == ((k % n : Nat) : Int)) = true := beq_self_eq_true _
    clear hm hp he
    generalize k % n = i at *
    go_enter Tryz.func20, Tryz.ntmps20
    go_wp2
    first | go_region_held3 (fun w' => w'.cell? ⟨b0, 0, none⟩ = some (.int .i64 (i : Int)))
      (first | (go_keep; done) | with_reducible exact s0 | with_reducible exact t1)
      ((go_at_call 21; with_reducible refine HC.out.mono ?_; rintro e w1 ⟨rfl, hc⟩; have t1 := keepC hc s0)) | fail
    all_goals
      go_wp2
      go_ret
      exact ⟨by first | rfl | trivial, from_ HD.out hc⟩
  · rw [decide_eq_false he]
    have hne : pk n x % n ≠ k % n := fun e => he (hm e)
    generalize pk n x % n = p at *
    generalize k % n = i at *
    have t0 : ((p : Int) == (i : Int)) = false := beq_eq_false_iff_ne.2 (by omega)
    clear hm hp he
    go_enter Tryz.func20, Tryz.ntmps20
    go_wp2
    first | go_region_held3 (fun w' => w'.cell? ⟨b0, 0, none⟩ = some (.int .i64 (i : Int)))
      (first | (go_keep; done) | with_reducible exact s0 | with_reducible exact t1)
      ((go_at_call 21; with_reducible refine HC.out.mono ?_; rintro e w1 ⟨rfl, hc⟩; have t1 := keepC hc s0)) | fail
    all_goals
      go_wp2
      go_ret
      exact ⟨by first | rfl | trivial, from_ HD.out hc⟩

set_option maxRecDepth 100000 in
set_option maxHeartbeats 1000000 in
theorem kindex_any {w : World} {Z : Zone} {A : Option Addr} {c n k b0 : Nat} {F : List (List Int)} (ha : MatN w Z A c n F) (hp : ∀ r ∈ F, pk n r ≠ 0) (k1 : 1 ≤ k) (k2 : k ≤ n) (hat : w.cell? ⟨b0, 0, none⟩ = some (.int .i64 ((k % n : Nat) : Int))) :
    Calls Tryz.prog 38 #[.slice A F.length c, .func (.func 20) #[] #[.pointer (some ⟨b0, 0, none⟩)]] w fun e w' => (∃ r, e = .returned (.int .i64 r) ∧ decide (0 ≤ r) = isP n F k) ∧ Below w.heap.size w w' := by
  have hlen := ha.len
  go_enter Tryz.func38, Tryz.ntmps38
  go_wp2
  go_loopw [8] (fun i wr => ∃ q : Nat, q ≤ F.length ∧ i = .int .i64 q ∧ Below w.heap.size w wr ∧ Hid (∀ j (hj : j < F.length), j < q → decide (pk n F[j] = k) = false)) (fun i _ => F.length - (intOf i).toNat)
  case atStart => exact ⟨0, Nat.zero_le _, rfl, Below.refl _ _, fun j hj h => absurd h (by omega)⟩
  case round =>
    obtain ⟨q, hq, rfl, hbel, hz⟩ := hrel
    by_cases hlt : q < F.length
    · obtain ⟨b, o, B, d, rfl, hbb, c0, hu⟩ := (ha.below hbel).at hlt
      have hck := kernel1_any hu (hp _ (List.getElem_mem hlt)) k1 k2 (keepC hbel hat)
      have hok : decide (pk n F[q] = k) = true ∨ decide (pk n F[q] = k) = false := by cases decide (pk n F[q] = k) <;> simp
      have Hall : Hid (decide (pk n F[q] = k) = false → ∀ j (hj : j < F.length), j < q + 1 → decide (pk n F[j] = k) = false) := fun hx j hj hjk => by
        rcases Nat.lt_or_ge j q with h1 | h1
        · exact hz.out j hj h1
        · obtain rfl : j = q := by omega
          exact hx
      have Hsome : Hid (decide (pk n F[q] = k) = true → isP n F k = true) := fun hx => isP_iff.2 ⟨_, List.getElem_mem hlt, of_decide_eq_true hx⟩
      clear hu hz
      generalize decide (pk n F[q] = k) = R at *
      rcases hok with rfl | rfl
      all_goals
        have Hck := Lib.hid hck
        clear hck
        go_wp2_with fail
        refine Hck.out.mono ?_
        rintro e w1 ⟨rfl, hb2⟩
        have hb3 := from_ hbel hb2
        go_wp2
      · go_ret
        exact ⟨⟨_, rfl, by rw [Hsome.out (by first | rfl | trivial)]; exact decide_eq_true (by omega)⟩, hb3⟩
      · go_roundw
        case rel => exact ⟨q + 1, by omega, by go_num, hb3, Lib.hid (Hall.out (by first | rfl | trivial))⟩
        case measure => simp [intOf]; omega
    · obtain rfl : q = F.length := by omega
      have he : isP n F k = false := by
        cases hall : isP n F k
        · rfl
        · obtain ⟨r, hr, e⟩ := isP_iff.1 hall
          obtain ⟨j, hj, rfl⟩ := List.getElem_of_mem hr
          exact absurd e (of_decide_eq_false (hz.out j hj hj))
      have He := Lib.hid he
      clear he hz
      go_wp2
      go_ret
      exact ⟨⟨_, rfl, by rw [He.out]; rfl⟩, hbel⟩

set_option maxRecDepth 100000 in
set_option maxHeartbeats 1000000 in
theorem kcontains_any {w : World} {Z : Zone} {A : Option Addr} {c n k b0 : Nat} {F : List (List Int)} (ha : MatN w Z A c n F) (hp : ∀ r ∈ F, pk n r ≠ 0) (k1 : 1 ≤ k) (k2 : k ≤ n) (hat : w.cell? ⟨b0, 0, none⟩ = some (.int .i64 ((k % n : Nat) : Int))) :
    Calls Tryz.prog 19 #[.slice A F.length c, .func (.func 20) #[] #[.pointer (some ⟨b0, 0, none⟩)]] w fun e w' => e = .returned (.bool (isP n F k)) ∧ Below w.heap.size w w' := by
  have hix := kindex_any ha hp k1 k2 hat
  have Hix := Lib.hid hix
  clear hix ha hp hat
  generalize F.length = L at *
  generalize isP n F k = R at *
  go_enter Tryz.func19, Tryz.ntmps19
  go_wp2_with fail
  refine Hix.out.mono ?_
  rintro e w1 ⟨⟨r, rfl, hr⟩, hb1⟩
  go_wp2
  go_ret
  exact ⟨rfl, hb1⟩

set_option maxRecDepth 100000 in
set_option maxHeartbeats 2000000 in
theorem r18same_any {w : World} {Z Y : Zone} {A B : Option Addr} {ca cb : Nat} {ps qs : Vecs} (ha : MatAt w Z A ca ps) (hb : MatAt w Y B cb qs) :
    Calls Tryz.prog 11 #[.slice A ps.length ca, .slice B qs.length cb] w fun e w' => e = .returned (.bool (decide (ps = qs))) ∧ Below w.heap.size w w' := by
  by_cases hl : ps.length = qs.length
  · have hself : ((ps.length : Int) != (ps.length : Int)) = false := bne_self_eq_false _
    have hla := ha.len
    have Hl := Lib.hid hl
    rw [← hl]
    clear hl
    go_enter Tryz.func11, Tryz.ntmps11
    go_wp2
    go_loopw [5] (fun i wr => ∃ k : Nat, k ≤ ps.length ∧ i = .int .i64 (k : Int) ∧ Below w.heap.size w wr ∧ Hid (∀ j (h1 : j < ps.length) (h2 : j < qs.length), j < k → ps[j] = qs[j])) (fun i _ => ps.length - (intOf i).toNat)
    case atStart => exact ⟨0, Nat.zero_le _, rfl, Below.refl _ _, fun j h1 h2 h => absurd h (by omega)⟩
    case round =>
      obtain ⟨k, hk, rfl, hbel, hz⟩ := hrel
      by_cases hlt : k < ps.length
      · have hltq : k < qs.length := by have := Hl.out; omega
        obtain ⟨b1, o1, B1, d1, rfl, hbb1, p0, hu1⟩ := (ha.below hbel).at hlt
        obtain ⟨b2, o2, B2, d2, rfl, hbb2, r0, hu2⟩ := (hb.below hbel).at hltq
        have hdr : Below wr.heap.size wr wr.drew := (Below.refl _ wr).drew
        have hsm := same7_all (hu1.below hdr) (hu2.below hdr)
        have hcase : decide (ps[k] = qs[k]) = true ∨ decide (ps[k] = qs[k]) = false := by cases decide (ps[k] = qs[k]) <;> simp
        have Hall : Hid (decide (ps[k] = qs[k]) = true → ∀ j (h1 : j < ps.length) (h2 : j < qs.length), j < k + 1 → ps[j] = qs[j]) := fun hx j h1 h2 hjk => by
          rcases Nat.lt_or_ge j k with h3 | h3
          · exact hz.out j h1 h2 h3
          · obtain rfl : j = k := by omega
            exact of_decide_eq_true hx
        have Hnone : Hid (decide (ps[k] = qs[k]) = false → decide (ps = qs) = false) := fun hx => by
          refine decide_eq_false fun h => ?_
          subst h
          simp at hx
        have hbd := hbel.drew
        have hl1 := hu1.len
        have hl2 := hu2.len
        clear hu1 hu2 hz hdr
        generalize decide (ps[k] = qs[k]) = R at *
        generalize ps[k].length = l at *
        generalize qs[k].length = l2 at *
        rcases hcase with rfl | rfl
        · have Hsm := Lib.hid hsm
          clear hsm
          go_wp2
          go_still_tail 8, (by kernel_rfl)
          change wpList _ _ _ _ _ wr.drew
          go_wp2_with fail
          refine Hsm.out.mono ?_
          rintro e w1 ⟨rfl, hb1⟩
          have hb2 := from_ hbd hb1
          go_wp2
          go_roundw
          case rel => exact ⟨k + 1, by omega, by go_num, hb2, Lib.hid (Hall.out (by first | rfl | trivial))⟩
          case measure => simp [intOf]; omega
        · have Hsm := Lib.hid hsm
          clear hsm
          go_wp2
          go_still_tail 8, (by kernel_rfl)
          change wpList _ _ _ _ _ wr.drew
          go_wp2_with fail
          refine Hsm.out.mono ?_
          rintro e w1 ⟨rfl, hb1⟩
          have hb2 := from_ hbd hb1
          go_wp2
          go_ret
          rw [Hnone.out (by first | rfl | trivial)]
          exact ⟨rfl, hb2⟩
      · obtain rfl : k = ps.length := by omega
        have he : decide (ps = qs) = true := decide_eq_true (List.ext_getElem Hl.out fun j h1 h2 => hz.out j h1 h2 h1)
        have He := Lib.hid he
        clear he hz
        go_wp2
        go_ret
        rw [He.out]
        exact ⟨rfl, hbel⟩
  · have hd : ((ps.length : Int) != (qs.length : Int)) = true := bne_iff_ne.2 (by omega)
    have hd2 : decide (ps = qs) = false := decide_eq_false fun h => hl (by rw [h])
    have hla := ha.len
    have hlb := hb.len
    rw [hd2]
    clear hd2 ha hb hl
    generalize ps.length = L at *
    generalize qs.length = M at *
    go_enter Tryz.func11, Tryz.ntmps11
    go_wp2
    go_ret
    exact ⟨rfl, Below.refl _ _⟩

/-- Rows of numbers are the same just if their signs and words are. -/
theorem encR_inj {x y : List Int} (h : encR x = encR y) : x = y := by
  have h1 : numR (encR x) = numR (encR y) := by rw [h]
  have e : ∀ z : List Int, numR (encR z) = z := fun z => by
    unfold numR encR
    rw [List.map_map]
    refine (List.map_congr_left fun a _ => ?_).trans (List.map_id _)
    exact zof_z a
  rwa [e, e] at h1
theorem encM_inj {F G : List (List Int)} : F.map encR = G.map encR ↔ F = G := by
  constructor
  · intro h
    exact List.map_inj_right (fun x y e => encR_inj e) |>.1 h
  · intro h; rw [h]

theorem r18same_n {w : World} {Z Y : Zone} {A B : Option Addr} {ca cb n m : Nat} {F G : List (List Int)} (ha : MatN w Z A ca n F) (hb : MatN w Y B cb m G) :
    Calls Tryz.prog 11 #[.slice A F.length ca, .slice B G.length cb] w fun e w' => e = .returned (.bool (decide (F = G))) ∧ Below w.heap.size w w' := by
  have h := r18same_any ha.2 hb.2
  rw [List.length_map, List.length_map] at h
  refine h.mono ?_
  rintro e w' ⟨rfl, hb⟩
  refine ⟨?_, hb⟩
  rw [show decide (F.map encR = G.map encR) = decide (F = G) from decide_eq_decide.2 encM_inj]
theorem r07same_n {w : World} {Z Y : Zone} {A B : Option Addr} {ca cb n m : Nat} {x y : List Int} (ha : RowAt w Z A ca n x) (hb : RowAt w Y B cb m y) :
    Calls Tryz.prog 10 #[.slice A n ca, .slice B m cb] w fun e w' => e = .returned (.bool (decide (x = y))) ∧ Below w.heap.size w w' := by
  have h := same7_all ha.2 hb.2
  rw [encR_length, encR_length, ha.1, hb.1] at h
  refine h.mono ?_
  rintro e w' ⟨rfl, hb⟩
  refine ⟨?_, hb⟩
  rw [show decide (encR x = encR y) = decide (x = y) from decide_eq_decide.2 ⟨encR_inj, fun h => by rw [h]⟩]

end Go.Proofs.YtajmijnoikkffaaGreat

namespace Go.Proofs.YtajmijnoikkffaaGreat
open Go.RowKit
set_option linter.unusedVariables false
set_option linter.unusedSimpArgs false

/-- The place of an index in the order. -/
def keyI (n i : Nat) : Nat := if i = 0 then n else i
theorem keyI_spec {n i : Nat} (h : i < n) : 1 ≤ keyI n i ∧ keyI n i ≤ n ∧ keyI n i % n = i := by
  unfold keyI
  split
  · rename_i h0
    subst h0
    exact ⟨by omega, Nat.le_refl _, Nat.mod_self n⟩
  · exact ⟨by omega, by omega, Nat.mod_eq_of_lt h⟩
theorem keyI_mod {n k : Nat} (h1 : 1 ≤ k) (h2 : k ≤ n) : keyI n (k % n) = k := by
  have h := keyI_spec (n := n) (i := k % n) (Nat.mod_lt _ (by omega))
  exact key_mod h.1 h.2.1 h1 h2 h.2.2
/-- The rows across at those of some places that are no pivots, and their form. -/
def rowsK (n : Nat) (F : List (List Int)) (ks : List Nat) : List (List Int) := (ks.filter fun k => !isP n F k).map (acF n F)
def outK (n : Nat) (F : List (List Int)) (ks : List Nat) : List (List Int) := formF n (rowsK n F ks)
theorem outK_free {n k : Nat} {F : List (List Int)} {ks : List Nat} (h : isP n F k = false) : outK n F (ks ++ [k]) = putF n (outK n F ks) (acF n F k) := by
  unfold outK rowsK formF
  rw [List.filter_append, List.map_append, List.foldl_append]
  simp [List.filter_cons, h]
theorem outK_piv {n k : Nat} {F : List (List Int)} {ks : List Nat} (h : isP n F k = true) : outK n F (ks ++ [k]) = outK n F ks := by
  unfold outK rowsK formF
  rw [List.filter_append, List.map_append, List.foldl_append]
  simp [List.filter_cons, h]
theorem ord_keys {n : Nat} {is : List Nat} (h : is = ordK n n) : is.map (keyI n) = List.range' 1 n := by
  subst h
  unfold ordK
  rw [List.map_map]
  refine (List.map_congr_left fun k hk => ?_).trans (List.map_id _)
  have := List.mem_range'_1.1 hk
  exact keyI_mod (by omega) (by omega)
theorem outK_all {n : Nat} {F : List (List Int)} : outK n F (List.range' 1 n) = kerF n F := rfl
theorem rowsK_mem {n : Nat} {F : List (List Int)} {ks : List Nat} (hk : ∀ k ∈ ks, 1 ≤ k ∧ k ≤ n) : ∀ x ∈ rowsK n F ks, x ∈ acL n F := fun x hx => by
  obtain ⟨k, hm, rfl⟩ := List.mem_map.1 hx
  rw [List.mem_filter] at hm
  refine List.mem_map.2 ⟨k, mem_free.2 ⟨hk k hm.1, fun r hr e => ?_⟩, rfl⟩
  have h1 : isP n F k = true := isP_iff.2 ⟨r, hr, e⟩
  rw [h1] at hm
  exact absurd hm.2 (by simp)
theorem outK_inv {n : Nat} {F : List (List Int)} {ks : List Nat} (hk : ∀ k ∈ ks, 1 ≤ k ∧ k ≤ n) : Inv n (outK n F ks) := formF_inv fun x hx => acL_len x (rowsK_mem hk x hx)
theorem outK_length {n : Nat} {F : List (List Int)} (h : Inv n F) {ks : List Nat} (hk : ∀ k ∈ ks, 1 ≤ k ∧ k ≤ n) : (outK n F ks).length ≤ n - F.length := by
  have h1 := (outK_inv (F := F) hk).lengths (ker_inv (F := F)) fun r hr => by
    refine Sp.sub (fun x hx => (formF_span acL_len).2 x (rowsK_mem hk x hx)) ((formF_span fun x hx => acL_len x (rowsK_mem hk x hx)).1 r hr)
  have h2 := ker_length h
  omega
theorem outK_szv {n M : Nat} {F : List (List Int)} (hM : ∀ r ∈ F, SzV M r) {ks : List Nat} (hk : ∀ k ∈ ks, 1 ≤ k ∧ k ≤ n) : ∀ r ∈ outK n F ks, SzV (szF (1 + (F.length + 1) * M) (outK n F ks).length) r :=
  szv_formF fun x hx => szv_acL hM x (rowsK_mem hk x hx)

theorem obj_cells {w : World} {a : Addr} {v : Value} (h : w.cell? a = some v) : ∃ o : Obj, w.heap[a.block]? = some o ∧ o.isCells = true := by
  unfold World.cell? at h
  split at h
  · rename_i c e f ho
    exact ⟨_, ho, rfl⟩
  · cases h
/-- What holds of a list of one's own is left by what turns no cells. -/
theorem U64s.cellsZ {w : World} {Z : Zone} {A : Option Addr} {c : Nat} {l : List Nat} (h : U64s w Z A c l) : U64s w ⟨fun b => Z.blk b ∧ ∃ o : Obj, w.heap[b]? = some o ∧ o.isCells = true, False⟩ A c l :=
  ⟨h.small, h.cap, h.max, h.nul, fun h0 => by
    obtain ⟨b, o, e, hz, _, hc⟩ := h.row h0
    exact ⟨b, o, e, ⟨hz, obj_cells (hc 0 _ (List.getElem?_eq_getElem h0))⟩, fun h => h.elim, hc⟩⟩
theorem VecAt.cellsZ {w : World} {Z : Zone} {A : Option Addr} {c : Nat} {ps : List (Bool × List Nat)} (h : VecAt w Z A c ps) : VecAt w ⟨fun b => Z.blk b ∧ ∃ o : Obj, w.heap[b]? = some o ∧ o.isCells = true, False⟩ A c ps :=
  ⟨h.cap, h.max, fun h0 => by
    obtain ⟨b, o, e, hz, hl, _, hc⟩ := h.row h0
    obtain ⟨B, d, c0, _, _⟩ := hc 0 h0
    refine ⟨b, o, e, ⟨hz, obj_cells c0⟩, hl, fun h => h.elim, fun j hj => ?_⟩
    obtain ⟨B, d, c0, c1, hu⟩ := hc j hj
    exact ⟨B, d, c0, c1, hu.cellsZ⟩⟩
theorem RowAt.cellsK {w w' : World} {Z : Zone} {A : Option Addr} {c n : Nat} {xs : List Int} (h : RowAt w Z A c n xs) (hz : ¬ Z.soft) (hs : w.heap.size ≤ w'.heap.size) (hk : ∀ (b : Nat) (o : Obj), w.heap[b]? = some o → o.isCells = true → w'.heap[b]? = some o) : RowAt w' Z A c n xs := by
  have h2 : RowAt w ⟨fun b => Z.blk b ∧ ∃ o : Obj, w.heap[b]? = some o ∧ o.isCells = true, False⟩ A c n xs := ⟨h.1, h.2.cellsZ⟩
  refine RowAt.mono (h2.keep hs fun b hb _ => ?_) ⟨fun b hb => hb.1, fun h => absurd h hz⟩
  obtain ⟨_, o, ho, hc⟩ := hb
  rw [hk b o ho hc, ho]
theorem FormAt.cellsK {w w' : World} {B g n N : Nat} {F : List (List Int)} {A : Option Addr} {c : Nat} {xs : List Value} (h : FormAt w B g n N F A c xs) (hs : w.heap.size ≤ w'.heap.size) (hk : ∀ (b : Nat) (o : Obj), w.heap[b]? = some o → o.isCells = true → w'.heap[b]? = some o) : FormAt w' B g n N F A c xs := by
  obtain ⟨o, ho, hc⟩ := obj_cells h.box
  have hgb : w'.heap[g]? = w.heap[g]? := by rw [hk g o ho hc, ho]
  refine ⟨h.cnt, (World.cell?_of_block (a := ⟨g, 0, none⟩) hgb).trans h.box, (World.frozen?_of_block (a := ⟨g, 0, none⟩) hgb).trans h.soft, h.ge, ?_, h.ne, h.len, fun j hj => ?_⟩
  · refine ⟨h.own.1, ?_⟩
    rcases h.own.2 with ⟨e, h0⟩ | ⟨b, cap, cur, e, hb, ho2, h3⟩
    · exact .inl ⟨e, h0⟩
    · exact .inr ⟨b, cap, cur, e, hb, hk b _ ho2 rfl, h3⟩
  · obtain ⟨A', c', e, hr⟩ := h.cells j hj
    exact ⟨A', c', e, hr.cellsK (fun h => h) hs hk⟩
theorem grown_cells {X Y : World} {row : Option Nat} (hg : X.grownBy Y row) (hr : ∀ r, row = some r → ∃ o : Obj, X.heap[r]? = some o ∧ o.isCells = false) (b : Nat) (o : Obj) (ho : X.heap[b]? = some o) (hc : o.isCells = true) : Y.heap[b]? = some o := by
  have hl : b < X.heap.size := (Array.getElem?_eq_some_iff.1 ho).1
  refine (hg.block b hl (fun e => ?_)).trans ho
  obtain ⟨o2, h2, h3⟩ := hr b e.symm
  rw [ho] at h2
  injection h2 with h2
  subst h2
  rw [hc] at h3
  cases h3
theorem FormAt.obj {w : World} {B g n N : Nat} {F : List (List Int)} {A : Option Addr} {c : Nat} {xs : List Value} (h : FormAt w B g n N F A c xs) {a : Addr} (ha : A = some a) : ∃ cur : Array Value, w.heap[a.block]? = some (.cells cur 23 (0, 0)) := by
  rcases h.shape with ⟨e1, _⟩ | ⟨b', cur, e1, _, _, ho2, _⟩
  · rw [e1] at ha; cases ha
  · rw [e1] at ha
    injection ha with ha
    subst ha
    exact ⟨cur, ho2⟩
/-- What put leaves: all that is no cells. -/
theorem OffB.keeps {B g n N : Nat} {F : List (List Int)} {A : Option Addr} {c : Nat} {xs : List Value} {w w' : World} (hf : FormAt w B g n N F A c xs) (h : OffB B g A w w') : KeepsOthers w w' := by
  refine ⟨h.bel.size, fun k o hk ho => ?_⟩
  have hl : k < w.heap.size := (Array.getElem?_eq_some_iff.1 hk).1
  refine (h.off k hl (fun e => ?_) (fun a ha e => ?_)).trans hk
  · subst e
    obtain ⟨o2, h2, h3⟩ := obj_cells hf.box
    rw [hk] at h2
    injection h2 with h2
    subst h2
    rw [ho] at h3
    cases h3
  · rcases hf.shape with ⟨e1, _⟩ | ⟨b', cur, e1, _, _, ho2, _⟩
    · rw [e1] at ha; cases ha
    · rw [e1] at ha
      injection ha with ha
      subst ha
      have e2 : b' = k := e
      rw [e2, hk] at ho2
      injection ho2 with ho2
      rw [ho2] at ho
      cases ho

end Go.Proofs.YtajmijnoikkffaaGreat

namespace Go.Proofs.YtajmijnoikkffaaGreat
open Go.RowKit
set_option linter.unusedVariables false
set_option linter.unusedSimpArgs false

set_option maxRecDepth 100000 in
set_option maxHeartbeats 1000000 in
theorem gives18 {w : World} {Z Y : Zone} {A B : Option Addr} {c d n K : Nat} {l F : List (List Int)} (hl : MatN w Z A c n l) (hf : MatN w Y B d n F) (h0 : 0 < n) (hn : n ≤ 64) (hm : l.length ≤ 1024) (hs : ∀ x ∈ l, SzV K x) (hF : formF n l = F) (hbig : bigF K F.length) :
    Calls Tryz.prog 25 #[.slice A l.length c, .slice B F.length d] w fun e w' => e = .returned (.bool true) ∧ Below w.heap.size w w' := by
  have hE := echelon_ok hl h0 hn hm hs (by rw [hF]; exact hbig)
  rw [hF] at hE
  have HE := Lib.hid hE
  have CS : Hid (∀ W X A2 c2, Below w.heap.size w W → MatN W X A2 c2 n F → Calls Tryz.prog 11 #[.slice A2 F.length c2, .slice B F.length d] W fun e w' => e = .returned (.bool true) ∧ Below W.heap.size W w') := fun W X A2 c2 g h => by
    have h1 := r18same_n h (hf.below g)
    rwa [decide_eq_true rfl] at h1
  have hlen := hl.len
  have hlen2 := hf.len
  clear hE hl hf hs hF hbig
  generalize l.length = N at *
  generalize F.length = M at *
  go_enter Tryz.func25, Tryz.ntmps25
  go_wp2_with fail
  refine HE.out.mono ?_
  rintro e w1 ⟨A2, c2, rfl, hm2, hc⟩
  go_wp2_with fail
  refine (CS.out _ _ _ _ hc hm2).mono ?_
  rintro e w2 ⟨rfl, hc2⟩
  have hB := from_ hc hc2
  clear hm2 hc hc2
  go_wp2
  go_ret
  exact ⟨by first | rfl | trivial, hB⟩

set_option maxRecDepth 100000 in
set_option maxHeartbeats 4000000 in
theorem alive18 (w : World) : Calls Tryz.prog 9 #[] w fun e w' => e = .returned (.bool true) ∧ Below w.heap.size w w' := by
  have hB : Below w.heap.size w w := Below.refl _ _
  have hV := Lib.hid rof3
  have hV2 := Lib.hid rof2
  have hG0 : Hid (∀ W A c B d, MatN W old A c 3 [[0, 2, 4], [3, 1, 2]] → MatN W old B d 3 [[0, 1, 2], [1, 0, 0]] → Calls Tryz.prog 25 #[.slice A 2 c, .slice B 2 d] W fun e w' => e = .returned (.bool true) ∧ Below W.heap.size W w') := fun W A c B d h1 h2 => by
    have h3 := gives18 (K := 1) h1 h2 (by omega) (by omega) (by simp) (by
      intro x hx
      simp only [List.mem_cons, List.not_mem_nil, or_false] at hx
      rcases hx with rfl | rfl <;> exact enc_szv (nmV_small (encR_nm _) (by simp))) (by decide +kernel) (by unfold bigF; decide +kernel)
    exact h3
  have hG1 : Hid (∀ W A c B d, MatN W old A c 3 [[2, 0, 4], [0, -3, 0]] → MatN W old B d 3 [[0, 1, 0], [1, 0, 2]] → Calls Tryz.prog 25 #[.slice A 2 c, .slice B 2 d] W fun e w' => e = .returned (.bool true) ∧ Below W.heap.size W w') := fun W A c B d h1 h2 => by
    have h3 := gives18 (K := 1) h1 h2 (by omega) (by omega) (by simp) (by
      intro x hx
      simp only [List.mem_cons, List.not_mem_nil, or_false] at hx
      rcases hx with rfl | rfl <;> exact enc_szv (nmV_small (encR_nm _) (by simp))) (by decide +kernel) (by unfold bigF; decide +kernel)
    exact h3
  go_enter Tryz.func9, Tryz.ntmps9
  go_wp2_with fail
  refine (hV.out _ _ (by simp) (0) (2) (4) (by omega) (by omega) (by omega)).mono ?_
  rintro e w1 ⟨A1, c1, rfl, v1, hb⟩
  replace hB := from_ hB hb
  clear hb
  go_wp2_with fail
  refine (hV.out _ _ (by simp) (3) (1) (2) (by omega) (by omega) (by omega)).mono ?_
  rintro e w2 ⟨A2, c2, rfl, v2, hb⟩
  replace v1 := v1.below hb
  replace hB := from_ hB hb
  clear hb
  have hal : Below w2.heap.size w2 (w2.alloc (.cells #[.slice A1 3 c1, .slice A2 3 c2] 23)) := (Below.refl _ _).alloc (Nat.le_refl _) _
  have m2 := matN_two 23 v1 v2
  clear v1 v2
  replace hB := from_ hB hal
  clear hal
  go_wp2_with fail
  refine (hV.out _ _ (by simp) (0) (1) (2) (by omega) (by omega) (by omega)).mono ?_
  rintro e w3 ⟨A3, c3, rfl, v3, hb⟩
  replace m2 := m2.below hb
  replace hB := from_ hB hb
  clear hb
  go_wp2_with fail
  refine (hV.out _ _ (by simp) (1) (0) (0) (by omega) (by omega) (by omega)).mono ?_
  rintro e w4 ⟨A4, c4, rfl, v4, hb⟩
  replace m2 := m2.below hb
  replace v3 := v3.below hb
  replace hB := from_ hB hb
  clear hb
  have hal : Below w4.heap.size w4 (w4.alloc (.cells #[.slice A3 3 c3, .slice A4 3 c4] 23)) := (Below.refl _ _).alloc (Nat.le_refl _) _
  have m4 := matN_two 23 v3 v4
  clear v3 v4
  replace m2 := m2.below hal
  replace hB := from_ hB hal
  clear hal
  go_wp2_with fail
  refine (hG0.out _ _ _ _ _ m2 m4).mono ?_
  rintro e w5 ⟨rfl, hb⟩
  clear m2 m4
  replace hB := from_ hB hb
  clear hb
  go_wp2_with fail
  refine (hV.out _ _ (by simp) (2) (0) (4) (by omega) (by omega) (by omega)).mono ?_
  rintro e w6 ⟨A6, c6, rfl, v6, hb⟩
  replace hB := from_ hB hb
  clear hb
  go_wp2_with fail
  refine (hV.out _ _ (by simp) (0) (-3) (0) (by omega) (by omega) (by omega)).mono ?_
  rintro e w7 ⟨A7, c7, rfl, v7, hb⟩
  replace v6 := v6.below hb
  replace hB := from_ hB hb
  clear hb
  have hal : Below w7.heap.size w7 (w7.alloc (.cells #[.slice A6 3 c6, .slice A7 3 c7] 23)) := (Below.refl _ _).alloc (Nat.le_refl _) _
  have m7 := matN_two 23 v6 v7
  clear v6 v7
  replace hB := from_ hB hal
  clear hal
  go_wp2_with fail
  refine (hV.out _ _ (by simp) (0) (1) (0) (by omega) (by omega) (by omega)).mono ?_
  rintro e w8 ⟨A8, c8, rfl, v8, hb⟩
  replace m7 := m7.below hb
  replace hB := from_ hB hb
  clear hb
  go_wp2_with fail
  refine (hV.out _ _ (by simp) (1) (0) (2) (by omega) (by omega) (by omega)).mono ?_
  rintro e w9 ⟨A9, c9, rfl, v9, hb⟩
  replace m7 := m7.below hb
  replace v8 := v8.below hb
  replace hB := from_ hB hb
  clear hb
  have hal : Below w9.heap.size w9 (w9.alloc (.cells #[.slice A8 3 c8, .slice A9 3 c9] 23)) := (Below.refl _ _).alloc (Nat.le_refl _) _
  have m9 := matN_two 23 v8 v9
  clear v8 v9
  replace m7 := m7.below hal
  replace hB := from_ hB hal
  clear hal
  go_wp2_with fail
  refine (hG1.out _ _ _ _ _ m7 m9).mono ?_
  rintro e w10 ⟨rfl, hb⟩
  clear m7 m9
  replace hB := from_ hB hb
  clear hb
  go_wp2_with fail
  refine (hV2.out _ _ (by simp) (1) (2) (by omega) (by omega)).mono ?_
  rintro e w11 ⟨A11, c11, rfl, v11, hb⟩
  replace hB := from_ hB hb
  clear hb v11
  go_wp2
  go_ret
  exact ⟨by first | rfl | trivial, hB⟩

end Go.Proofs.YtajmijnoikkffaaGreat

namespace Go.Proofs.YtajmijnoikkffaaGreat
open Go.RowKit
set_option linter.unusedVariables false
set_option linter.unusedSimpArgs false

/-- The error of a row beside a list of rows. -/
def errRw (ps : List (Bool × List Nat)) (pss : Vecs) : Int := if errR pss = 0 then (if errR [ps] = 0 then (if 0 < pss.length ∧ (pss.headD []).length ≠ ps.length then 70 else 0) else errR [ps]) else errR pss
theorem errR_one (ps : List (Bool × List Nat)) : errR [ps] = 0 ∨ errR [ps] = 8 := by
  rcases errR_vals [ps] with h | h | h | h
  · exact .inl h
  · exfalso
    unfold errR at h
    rw [if_pos (by simp)] at h
    split at h
    · split at h <;> cases h
    · cases h
  · exact .inr h
  · exfalso
    unfold errR at h
    rw [if_pos (by simp)] at h
    split at h
    · have e : evenR [ps] = true := by simp [evenR]
      rw [if_pos e] at h
      cases h
    · cases h

set_option maxRecDepth 100000 in
set_option maxHeartbeats 1000000 in
theorem reduce_err {w : World} {Z Y : Zone} {A B : Option Addr} {c d : Nat} {ps : List (Bool × List Nat)} {pss : Vecs} {E : Int} (ha : VecAt w Y B d ps) (hl : MatAt w Z A c pss) (hE : errRw ps pss = E) (h0 : E ≠ 0) :
    Calls Tryz.prog 5 #[.slice B ps.length d, .slice A pss.length c] w fun e w' => e = .returned (.tuple #[.slice none 0 0, .int .i64 E]) ∧ Below w.heap.size w w' := by
  have hck := rowscheck_any hl
  have hlen := hl.len
  have hlen2 := ha.len
  by_cases h1 : errR pss = 0
  · have hal : ∀ W, Below W.heap.size W (W.alloc (.cells #[.slice B ps.length d] 23)) := fun W => (Below.refl _ _).alloc (Nat.le_refl _) _
    have CK : Hid (∀ W, Below w.heap.size w W → Calls Tryz.prog 13 #[.slice (some ⟨W.heap.size, 0, none⟩) 1 1] (W.alloc (.cells #[.slice B ps.length d] 23)) fun e w' => e = .returned (.int .i64 (errR [ps])) ∧ Below W.heap.size W w') := fun W g => by
      refine (rowscheck_any (mat_one 23 (ha.below g))).mono ?_
      rintro e w' ⟨rfl, hb⟩
      exact ⟨rfl, from_ (hal W) hb⟩
    rw [h1] at hck
    have Hck := Lib.hid hck
    by_cases h2 : errR [ps] = 0
    · rw [h2] at CK
      have h3 : 0 < pss.length ∧ (pss.headD []).length ≠ ps.length := by
        refine Classical.byContradiction fun h => h0 ?_
        rw [← hE]
        unfold errRw
        rw [if_pos h1, if_pos h2, if_neg h]
      have e70 : E = 70 := by rw [← hE]; unfold errRw; rw [if_pos h1, if_pos h2, if_pos h3]
      subst e70
      obtain ⟨h3, h4⟩ := h3
      rw [headD_zero h3] at h4
      have HAT : Hid (∀ W, Below w.heap.size w W → ∃ b o B2 d2, A = some ⟨b, o, none⟩ ∧ b < W.heap.size ∧ W.cell? ⟨b, o, none⟩ = some (.slice B2 (pss[0]'h3).length d2)) := fun W g => by
        obtain ⟨b, o, B2, d2, e, hb, hc, _⟩ := (hl.below g).at h3
        exact ⟨b, o, B2, d2, e, hb, by simpa using hc⟩
      have t0 : decide ((0 : Int) < (pss.length : Int)) = true := decide_eq_true (by omega)
      have t1 : decide (0 < pss.length) = true := decide_eq_true h3
      have t2 : (((pss[0]'h3).length : Int) != (ps.length : Int)) = true := bne_iff_ne.2 (by omega)
      clear hck ha hl hE h0 h1 h2 hal
      generalize (pss[0]'h3).length = M at *
      clear h4
      generalize pss.length = N at *
      generalize ps.length = L at *
      go_enter Tryz.func5, Tryz.ntmps5
      go_wp2_with fail
      refine Hck.out.mono ?_
      rintro e w1 ⟨rfl, hc⟩
      go_wp2_with fail
      refine (CK.out _ hc).mono ?_
      rintro e w2 ⟨rfl, hc2⟩
      have hB := from_ hc hc2
      obtain ⟨b, o, B2, d2, rfl, hbb, hcell⟩ := HAT.out _ hB
      clear hc hc2
      go_wp2
      go_ret2
      exact ⟨rfl, hB⟩
    · have e8 : errR [ps] = 8 := (errR_one ps).resolve_left h2
      have eE : E = 8 := by rw [← hE]; unfold errRw; rw [if_pos h1, if_neg h2, e8]
      subst eE
      rw [e8] at CK
      clear hck ha hl hE h0 h1 h2 hal e8
      generalize pss.length = N at *
      generalize ps.length = L at *
      go_enter Tryz.func5, Tryz.ntmps5
      go_wp2_with fail
      refine Hck.out.mono ?_
      rintro e w1 ⟨rfl, hc⟩
      go_wp2_with fail
      refine (CK.out _ hc).mono ?_
      rintro e w2 ⟨rfl, hc2⟩
      have hB := from_ hc hc2
      go_wp2
      go_ret2
      exact ⟨rfl, hB⟩
  · have eE : errR pss = E := by rw [← hE]; unfold errRw; rw [if_neg h1]
    rw [eE] at hck
    have hE2 : E = 4 ∨ E = 8 ∨ E = 70 := by
      rcases errR_vals pss with h | h | h | h
      · exact absurd h h1
      all_goals (rw [eE] at h; simp [h])
    have Hck := Lib.hid hck
    clear hck ha hl hE h0 h1 eE
    generalize pss.length = N at *
    generalize ps.length = L at *
    rcases hE2 with rfl | rfl | rfl
    all_goals
      go_enter Tryz.func5, Tryz.ntmps5
      go_wp2_with fail
      refine Hck.out.mono ?_
      rintro e w1 ⟨rfl, hc⟩
      go_wp2
      go_ret2
      exact ⟨rfl, hc⟩

set_option maxRecDepth 100000 in
set_option maxHeartbeats 1000000 in
theorem reduce_ok {w : World} {Z Y : Zone} {A B : Option Addr} {c d n K B0 M : Nat} {l : List (List Int)} {x : List Int} (hl : MatN w Z A c n l) (ha : RowAt w Y B d n x) (h0 : 0 < n) (hn : n ≤ 64) (hm : l.length ≤ 1024) (hs : ∀ y ∈ l, SzV B0 y) (hbig : bigF B0 (formF n l).length) (hx : SzV K x) (hM : ∀ r ∈ formF n l, SzV M r) (hK : K + (formF n l).length * (M + 1) + M + 1 ≤ 10000000000) :
    Calls Tryz.prog 5 #[.slice B n d, .slice A l.length c] w fun e w' => ∃ A2 c2, e = .returned (.tuple #[.slice A2 n c2, .int .i64 0]) ∧ RowAt w' (new w.heap.size) A2 c2 n (restF n (formF n l) x) ∧ Below w.heap.size w w' := by
  have hck := rowscheck_any hl.2
  rw [errR_enc hl.1 h0 hn hm, List.length_map] at hck
  have Hck := Lib.hid hck
  have hax := ha.1
  have CK : Hid (∀ W, Below w.heap.size w W → Calls Tryz.prog 13 #[.slice (some ⟨W.heap.size, 0, none⟩) 1 1] (W.alloc (.cells #[.slice B n d] 23)) fun e w' => e = .returned (.int .i64 0) ∧ Below W.heap.size W w') := fun W g => by
    have h1 := matN_one 23 (ha.below g)
    have h2 := rowscheck_any h1.2
    rw [errR_enc h1.1 h0 hn (by simp), List.length_map] at h2
    refine h2.mono ?_
    rintro e w' ⟨rfl, hb⟩
    exact ⟨rfl, from_ ((Below.refl _ _).alloc (Nat.le_refl _) _) hb⟩
  have C1 : Hid (∀ W, Below w.heap.size w W → Calls Tryz.prog 15 #[.slice A l.length c] W fun e w' => ∃ g, e = .returned (.pointer (some ⟨g, 0, none⟩)) ∧ (∃ A2 c2 xs, FormAt w' W.heap.size g n (formF n l).length (formF n l) A2 c2 xs) ∧ Below W.heap.size W w') := fun W g => formed_any (hl.below g) hn hs hbig
  have CR : Hid (∀ W g A2 c2 xs C, Below w.heap.size w W → FormAt W C g n (formF n l).length (formF n l) A2 c2 xs → Calls Tryz.prog 16 #[.pointer (some ⟨g, 0, none⟩), .slice B n d] W fun e w' => ∃ Av cv, e = .returned (.slice Av n cv) ∧ RowAt w' (since W.heap.size) Av cv n (restF n (formF n l) x) ∧ Below W.heap.size W w') := fun W g A2 c2 xs C gb gf =>
    rowrest_any gf.box gf.mat (ha.below gb) hn hx hM (formF_inv hl.1).piv hK
  have hsr : SzV (K + (formF n l).length * (M + 1)) (restF n (formF n l) x) := szv_restF hx hM
  have CT : Hid (∀ W Z A c, RowAt W Z A c n (restF n (formF n l) x) → Calls Tryz.prog 14 #[.slice A n c] W fun e w' => ∃ Av cv, e = .returned (.slice Av n cv) ∧ RowAt w' (new W.heap.size) Av cv n (restF n (formF n l) x) ∧ Below W.heap.size W w') := fun W Z A c g => rtwin g hn hsr (by omega)
  have hlen := hl.len
  have HAT : Hid (∀ W, Below w.heap.size w W → ∀ (_ : 0 < l.length), ∃ b o B2 d2, A = some ⟨b, o, none⟩ ∧ b < W.heap.size ∧ W.cell? ⟨b, o, none⟩ = some (.slice B2 n d2)) := fun W g h3 => by
    obtain ⟨b, o, B2, d2, e, hb, hc, _⟩ := (hl.below g).at h3
    exact ⟨b, o, B2, d2, e, hb, by simpa using hc⟩
  have t2 : ((n : Int) != (n : Int)) = false := bne_self_eq_false _
  clear hck hl hs hbig ha hM hK hsr hx hax
  generalize l.length = N at *
  by_cases hN : 0 < N
  · have t0 : decide ((0 : Int) < (N : Int)) = true := decide_eq_true (by omega)
    have t1 : decide (0 < N) = true := decide_eq_true hN
    go_enter Tryz.func5, Tryz.ntmps5
    go_wp2_with fail
    refine Hck.out.mono ?_
    rintro e w1 ⟨rfl, hc⟩
    go_wp2_with fail
    refine (CK.out _ hc).mono ?_
    rintro e w2 ⟨rfl, hc2⟩
    have hB := from_ hc hc2
    obtain ⟨b, o, B2, d2, rfl, hbb, hcell⟩ := HAT.out _ hB hN
    clear hc hc2
    go_wp2_with fail
    refine (C1.out _ hB).mono ?_
    rintro e w3 ⟨g, rfl, ⟨A2, c2, xs, hf⟩, hc⟩
    replace hB := from_ hB hc
    clear hc hcell hbb
    go_wp2_with fail
    refine (CR.out _ _ _ _ _ _ hB hf).mono ?_
    rintro e w4 ⟨A3, c3, rfl, hr, hc⟩
    replace hB := from_ hB hc
    clear hc hf
    go_wp2_with fail
    refine (CT.out _ _ _ _ hr).mono ?_
    rintro e w5 ⟨A4, c4, rfl, hr4, hc⟩
    have HR := Lib.hid (hr4.mono (Y := new w.heap.size) (new_le hB.size))
    replace hB := from_ hB hc
    clear hc hr hr4
    go_wp2
    go_ret2
    exact ⟨_, _, rfl, HR.out, hB⟩
  · obtain rfl : N = 0 := by omega
    clear hN HAT hlen
    go_enter Tryz.func5, Tryz.ntmps5
    go_wp2_with fail
    refine Hck.out.mono ?_
    rintro e w1 ⟨rfl, hc⟩
    go_wp2_with fail
    refine (CK.out _ hc).mono ?_
    rintro e w2 ⟨rfl, hc2⟩
    have hB := from_ hc hc2
    clear hc hc2
    go_wp2_with fail
    refine (C1.out _ hB).mono ?_
    rintro e w3 ⟨g, rfl, ⟨A2, c2, xs, hf⟩, hc⟩
    replace hB := from_ hB hc
    clear hc
    go_wp2_with fail
    refine (CR.out _ _ _ _ _ _ hB hf).mono ?_
    rintro e w4 ⟨A3, c3, rfl, hr, hc⟩
    replace hB := from_ hB hc
    clear hc hf
    go_wp2_with fail
    refine (CT.out _ _ _ _ hr).mono ?_
    rintro e w5 ⟨A4, c4, rfl, hr4, hc⟩
    have HR := Lib.hid (hr4.mono (Y := new w.heap.size) (new_le hB.size))
    replace hB := from_ hB hc
    clear hc hr hr4
    go_wp2
    go_ret2
    exact ⟨_, _, rfl, HR.out, hB⟩

theorem zero_pk {n : Nat} {x : List Int} (hx : x.length = n) : zeroV (encR x) = decide (pk n x = 0) := by
  rw [zeroV_nm (encR_nm x)]
  by_cases h : pk n x = 0
  · rw [decide_eq_true h]
    refine decide_eq_true fun a ha => ?_
    obtain ⟨k, h1, h2, rfl⟩ := mem_co hx ha
    exact pk_zero h h1 h2
  · rw [decide_eq_false h]
    refine decide_eq_false fun hz => h (pk_none fun k h1 h2 => ?_)
    exact hz _ (co_mem hx (by omega))

set_option maxRecDepth 100000 in
set_option maxHeartbeats 1000000 in
theorem rin_err {w : World} {Z Y : Zone} {A B : Option Addr} {c d : Nat} {ps : List (Bool × List Nat)} {pss : Vecs} {E : Int} (ha : VecAt w Y B d ps) (hl : MatAt w Z A c pss) (hE : errRw ps pss = E) (h0 : E ≠ 0) :
    Calls Tryz.prog 6 #[.slice B ps.length d, .slice A pss.length c] w fun e w' => e = .returned (.tuple #[.bool false, .int .i64 E]) ∧ Below w.heap.size w w' := by
  have Hc := Lib.hid (reduce_err ha hl hE h0)
  have hlen := hl.len
  have hlen2 := ha.len
  have t0 : (E == 0) = false := beq_eq_false_iff_ne.2 h0
  clear ha hl hE
  generalize pss.length = N at *
  generalize ps.length = L at *
  go_enter Tryz.func6, Tryz.ntmps6
  go_wp2_with fail
  refine Hc.out.mono ?_
  rintro e w1 ⟨rfl, hc⟩
  go_wp2
  go_ret2
  exact ⟨rfl, hc⟩

set_option maxRecDepth 100000 in
set_option maxHeartbeats 1000000 in
theorem rin_ok {w : World} {Z Y : Zone} {A B : Option Addr} {c d n K B0 M : Nat} {l : List (List Int)} {x : List Int} (hl : MatN w Z A c n l) (ha : RowAt w Y B d n x) (h0 : 0 < n) (hn : n ≤ 64) (hm : l.length ≤ 1024) (hs : ∀ y ∈ l, SzV B0 y) (hbig : bigF B0 (formF n l).length) (hx : SzV K x) (hM : ∀ r ∈ formF n l, SzV M r) (hK : K + (formF n l).length * (M + 1) + M + 1 ≤ 10000000000) :
    Calls Tryz.prog 6 #[.slice B n d, .slice A l.length c] w fun e w' => e = .returned (.tuple #[.bool (decide (pk n (restF n (formF n l) x) = 0)), .int .i64 0]) ∧ Below w.heap.size w w' := by
  have Hc := Lib.hid (reduce_ok hl ha h0 hn hm hs hbig hx hM hK)
  have hlr : (restF n (formF n l) x).length = n := restF_length (formF_inv hl.1).len ha.1
  have CZ : Hid (∀ W Z A c, RowAt W Z A c n (restF n (formF n l) x) → Calls Tryz.prog 17 #[.slice A n c] W fun e w' => e = .returned (.bool (decide (pk n (restF n (formF n l) x) = 0))) ∧ Below W.heap.size W w') := fun W Z A c g => by
    have h1 := vzero_any g.2 (by rw [encR_length, hlr]; omega)
    rw [zero_pk hlr, encR_length, hlr] at h1
    exact h1
  have hlen := hl.len
  clear hl ha hs hbig hx hM hK hlr
  generalize restF n (formF n l) x = r at *
  generalize decide (pk n r = 0) = R at *
  generalize l.length = N at *
  go_enter Tryz.func6, Tryz.ntmps6
  go_wp2_with fail
  refine Hc.out.mono ?_
  rintro e w1 ⟨A1, c1, rfl, hr, hc⟩
  go_wp2_with fail
  refine (CZ.out _ _ _ _ hr).mono ?_
  rintro e w2 ⟨rfl, hc2⟩
  have hB := from_ hc hc2
  clear hr
  go_wp2
  go_ret2
  exact ⟨rfl, hB⟩

end Go.Proofs.YtajmijnoikkffaaGreat
