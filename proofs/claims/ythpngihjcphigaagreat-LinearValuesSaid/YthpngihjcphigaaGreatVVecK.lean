/- The chapter's first examples of rows. No conditions. -/
import Derived.Deep.RegionHeld3
import Derived.Test.YthpngihjcphigaaGreatVWhU
import Derived.Test.YthpngihjcphigaaGreatVWhJ
import Derived.Test.YthpngihjcphigaaGreatVFrameB
import Derived.Test.YthpngihjcphigaaGreatVVecC
set_option linter.unusedVariables false
set_option linter.unusedSimpArgs false
set_option maxRecDepth 100000
set_option maxHeartbeats 40000000
namespace Go.Proofs.YthpngihjcphigaaGreat
open Go.Lib (hid)
open Go.RowKit
variable {A B : Option Addr} {Y Z : Zone} {c ca cb g : Nat} {e : TypeId} {w w' : World} {xs : List Value}
structure VecAt (w : World) (Z : Zone) (A : Option Addr) (c : Nat) (ps : List (Bool × List Nat)) : Prop where
 cap : ps.length ≤ c
 max : c ≤ 9223372036854775807
 row : 0 < ps.length → ∃ b o, A = some ⟨b, o, none⟩ ∧ Z.blk b ∧ b < w.heap.size ∧ (Z.soft → ∀ j, w.frozen? ⟨b, o + j, none⟩ = false) ∧
  ∀ j (hj : j < ps.length), ∃ B d, w.cell? ⟨b, o + j * 2, none⟩ = some (.bool ps[j].1) ∧ w.cell? ⟨b, o + j * 2 + 1, none⟩ = some (.slice B ps[j].2.length d) ∧ U64s w Z B d ps[j].2
def IsVec (w : World) (Z : Zone) (v : Value) (ps : List (Bool × List Nat)) : Prop := ∃ A c, v = .slice A ps.length c ∧ VecAt w Z A c ps
theorem VecAt.nil (w : World) (Z : Zone) : VecAt w Z none 0 [] := ⟨by simp, by omega, fun h => absurd h (by simp)⟩
theorem VecAt.below {ps : List (Bool × List Nat)} (h : VecAt w Z A c ps) (hb : Below w.heap.size w w') : VecAt w' Z A c ps := by
 refine ⟨h.cap, h.max, fun h0 => ?_⟩
 obtain ⟨b, o, e, h1, h2, h3, h4⟩ := h.row h0
 refine ⟨b, o, e, h1, Nat.lt_of_lt_of_le h2 hb.size, fun hs j => ((bcell hb).2 b (o + j) h2).trans (h3 hs j), fun j hj => ?_⟩
 obtain ⟨B, d, c0, c1, hu⟩ := h4 j hj
 exact ⟨B, d, keepC hb c0, keepC hb c1, hu.below hb⟩
theorem VecAt.mono {ps : List (Bool × List Nat)} (h : VecAt w Z A c ps) (hz : Z.le Y) : VecAt w Y A c ps := by
 refine ⟨h.cap, h.max, fun h0 => ?_⟩
 obtain ⟨b, o, e, h1, h2, h3, h4⟩ := h.row h0
 refine ⟨b, o, e, hz.1 b h1, h2, fun hs => h3 (hz.2 hs), fun j hj => ?_⟩
 obtain ⟨B, d, c0, c1, hu⟩ := h4 j hj
 exact ⟨B, d, c0, c1, hu.mono hz⟩
theorem VecAt.keep {ps : List (Bool × List Nat)} (h : VecAt w Z A c ps) (hs : w.heap.size ≤ w'.heap.size) (hk : ∀ b, Z.blk b → b < w.heap.size → w'.heap[b]? = w.heap[b]?) : VecAt w' Z A c ps := by
 refine ⟨h.cap, h.max, fun h0 => ?_⟩
 obtain ⟨b, o, e, h1, h2, h3, h4⟩ := h.row h0
 have hb := hk b h1 h2
 refine ⟨b, o, e, h1, by omega, fun hs j => (World.frozen?_of_block (a := ⟨b, o + j, none⟩) hb).trans (h3 hs j), fun j hj => ?_⟩
 obtain ⟨B, d, c0, c1, hu⟩ := h4 j hj
 exact ⟨B, d, (World.cell?_of_block (a := ⟨b, o + j * 2, none⟩) hb).trans c0, (World.cell?_of_block (a := ⟨b, o + j * 2 + 1, none⟩) hb).trans c1, hu.keep hk⟩
theorem VecAt.len {ps : List (Bool × List Nat)} (h : VecAt w Z A c ps) : ps.length ≤ 9223372036854775807 := Nat.le_trans h.cap h.max
theorem VecAt.small {ps : List (Bool × List Nat)} (h : VecAt w Z A c ps) : ∀ p ∈ ps, Small p.2 := fun p hp => by
 obtain ⟨j, hj, rfl⟩ := List.getElem_of_mem hp
 obtain ⟨b, o, _, _, _, _, h4⟩ := h.row (by omega)
 obtain ⟨B, d, _, _, hu⟩ := h4 j hj
 exact hu.small
theorem VecAt.at {ps : List (Bool × List Nat)} (h : VecAt w Z A c ps) {j : Nat} (hj : j < ps.length) :
  ∃ b o B d, A = some ⟨b, o, none⟩ ∧ b < w.heap.size ∧ w.cell? ⟨b, o + j * 2, none⟩ = some (.bool ps[j].1) ∧ w.cell? ⟨b, o + j * 2 + 1, none⟩ = some (.slice B ps[j].2.length d) ∧ U64s w Z B d ps[j].2 := by
 obtain ⟨b, o, e, _, h2, _, h4⟩ := h.row (by omega)
 obtain ⟨B, d, c0, c1, hu⟩ := h4 j hj
 exact ⟨b, o, B, d, e, h2, c0, c1, hu⟩
def okV (ps : List (Bool × List Nat)) : Bool := decide (ps.length ≤ 64) && ps.all fun p => okI p.1 p.2
open Go.ChangeShapes Go.WideShapes Go.ChangeAt Go.RowKit
structure WholeT (P : Program) (t : TypeId) (fs : Array Field) (f0 f1 : Field) (e : TypeId) : Prop where
 ht : P.underlying t = some (.struct fs)
 hn : P.cellsOf t = 2
 h0 : fs[0]? = some f0
 h1 : fs[1]? = some f1
 o0 : f0.offset = 0
 o1 : f1.offset = 1
 c0 : P.cellsOf f0.type = 1
 c1 : P.cellsOf f1.type = 1
 hb : P.underlying f0.type = some .bool
 hs : P.underlying f1.type = some (.slice e)
 he : P.underlying e = some (.int .u64)
 hc : P.cellsOf e = 1
theorem open_wholeC {H : Type} {enc : TypeId × Value → H} {P : Program} {W : World} {base : Nat} {held : Bool} {t : TypeId} {fs : Array Field} {f0 f1 : Field} {fuel : Nat} {cs : List Value} {x : DataW H × List MemPlace}
  (T : WholeT P t fs f0 f1 e) (hf : DataW.trod enc P W base (fun _ => true) held fuel t cs = some x) :
  ∃ s v l, cs = [.bool s, v] ∧ IsU W old v l := by
 obtain ⟨xs, n, _, _, hl, _, hfs⟩ := DataW.trod_struct T.ht hf
 rw [T.hn] at hl
 have e0 := hfs 0 f0 T.h0
 have e1 := hfs 1 f1 T.h1
 obtain ⟨a, b, rfl⟩ : ∃ a b, cs = [a, b] := by
  match cs, hl with
  | [a, b], _ => exact ⟨a, b, rfl⟩
 rw [T.o0, T.c0] at e0
 rw [T.o1, T.c1] at e1
 simp at e0 e1
 have g0 : ∃ y, DataW.trod enc P W base (fun _ => true) held n f0.type [a] = some y := by
  cases hx : xs[0]? with
  | some y => exact ⟨y, by simpa [hx] using e0⟩
  | none =>
    have : xs.length = fs.size := by assumption
    have h2 : 0 < fs.size := by
     rcases Nat.eq_zero_or_pos fs.size with h | h
     · have h3 := T.h0; rw [Array.getElem?_eq_none (by omega)] at h3; cases h3
     · exact h
    rw [List.getElem?_eq_none_iff] at hx
    omega
 have g1 : ∃ y, DataW.trod enc P W base (fun _ => true) held n f1.type [b] = some y := by
  cases hx : xs[1]? with
  | some y => exact ⟨y, by simpa [hx] using e1⟩
  | none =>
    have : xs.length = fs.size := by assumption
    have h2 : 1 < fs.size := by
     rcases Nat.lt_or_ge 1 fs.size with h | h
     · exact h
     · have h3 := T.h1; rw [Array.getElem?_eq_none (by omega)] at h3; cases h3
    rw [List.getElem?_eq_none_iff] at hx
    omega
 obtain ⟨y0, g0⟩ := g0
 obtain ⟨y1, g1⟩ := g1
 obtain ⟨s, hs0, _⟩ := DataW.trod_bool T.hb g0
 obtain ⟨u, l, hu, hl⟩ := open_wordsC T.hs T.he T.hc g1
 injection hs0 with hs0 _
 injection hu with hu _
 subst hs0 hu
 exact ⟨s, _, l, rfl, hl⟩
theorem list_of_each {α : Type} {R : Nat → α → Prop} : ∀ (n : Nat), (∀ j, j < n → ∃ a, R j a) → ∃ l : List α, l.length = n ∧ ∀ j (hj : j < l.length), R j l[j] := by
 intro n
 induction n with
 | zero => exact fun _ => ⟨[], rfl, fun j hj => absurd hj (by simp)⟩
 | succ n ih =>
   intro h
   obtain ⟨l, hl, hr⟩ := ih fun j hj => h j (by omega)
   obtain ⟨a, ha⟩ := h n (by omega)
   refine ⟨l ++ [a], by simp [hl], fun j hj => ?_⟩
   rw [List.length_append, List.length_singleton] at hj
   by_cases hjl : j < l.length
   · rw [List.getElem_append_left hjl]
     exact hr j hjl
   · obtain rfl : j = n := by omega
     rw [List.getElem_append_right (by omega)]
     simpa [hl] using ha
theorem wholeT_ : ∃ fs f0 f1, WholeT Tryz.prog 25 fs f0 f1 95 :=
 ⟨_, _, _, ⟨Tryz.underlying25, by kernel_rfl, rfl, rfl, rfl, rfl, by kernel_rfl, by kernel_rfl, Tryz.underlying4, Tryz.underlying23, Tryz.underlying95, by kernel_rfl⟩⟩
def GivenV (w : World) (g : Nat) (pss : List (List (Bool × List Nat))) : Prop :=
 ∀ j (h : j < pss.length), ∃ A c, w.cell? ⟨g, j, none⟩ = some (.slice A pss[j].length c) ∧ VecAt w old A c pss[j]
theorem GivenV.below {pss : List (List (Bool × List Nat))} (h : GivenV w g pss) (hb : Below w.heap.size w w') : GivenV w' g pss := fun j hj => by
 obtain ⟨A, c, h0, h1⟩ := h j hj
 exact ⟨A, c, keepC hb h0, h1.below hb⟩
def CellsQ (w : World) (g : Nat) (xs : List Value) (k : Nat) (qs : List (Bool × List Nat)) : Prop :=
 ∀ j (hj : j < qs.length), j < k → ∃ A c, xs[j * 2]? = some (.bool qs[j].1) ∧ xs[j * 2 + 1]? = some (.slice A qs[j].2.length c) ∧ U64s w (new (g + 1)) A c qs[j].2
theorem CellsQ.keep {k : Nat} {qs : List (Bool × List Nat)} (h : CellsQ w g xs k qs) (hk : ∀ b, b ≠ g → b < w.heap.size → w'.heap[b]? = w.heap[b]?) : CellsQ w' g xs k qs := fun j hj hjk => by
 obtain ⟨A, c, c0, c1, hu⟩ := h j hj hjk
 exact ⟨A, c, c0, c1, hu.keep fun b hb hl => hk b (by have : g + 1 ≤ b := hb; omega) hl⟩
theorem CellsQ.put {k : Nat} {qs : List (Bool × List Nat)} (h : CellsQ w g xs k qs) (hl : xs.length = qs.length * 2) (hk : k < qs.length)
  (hu : U64s w (new (g + 1)) A c (qs[k]).2) (hw : ∀ b, b ≠ g → b < w.heap.size → w'.heap[b]? = w.heap[b]?) :
  CellsQ w' g ((xs.set (k * 2) (.bool (qs[k]).1)).set (k * 2 + 1) (.slice A (qs[k]).2.length c)) (k + 1) qs := fun j hj hjk => by
 rcases Nat.lt_or_ge j k with h1 | h1
 · obtain ⟨A', c', c0, c1, hu'⟩ := h j hj h1
   refine ⟨A', c', ?_, ?_, hu'.keep fun b hb hl => hw b (by have : g + 1 ≤ b := hb; omega) hl⟩
   · rw [List.getElem?_set_ne (by omega), List.getElem?_set_ne (by omega)]
     exact c0
   · rw [List.getElem?_set_ne (by omega), List.getElem?_set_ne (by omega)]
     exact c1
 · obtain rfl : j = k := by omega
   refine ⟨A, c, ?_, ?_, hu.keep fun b hb hl => hw b (by have : g + 1 ≤ b := hb; omega) hl⟩
   · rw [List.getElem?_set_ne (by omega), List.getElem?_set_self (by omega)]
   · rw [List.getElem?_set_self (by rw [List.length_set]; omega)]
theorem CellsQ.fin {qs : List (Bool × List Nat)} {B : Nat} (h : CellsQ w g xs qs.length qs) (hown : w.ownsRow B e 2 (.slice (some ⟨g, 0, none⟩) qs.length qs.length) qs.length xs) (hg : g < w.heap.size) (hB : B ≤ g) (hm : qs.length ≤ 1000000000000) : VecAt w (new B) (some ⟨g, 0, none⟩) qs.length qs := by
 refine ⟨Nat.le_refl _, by omega, fun h0 => ⟨g, 0, rfl, hB, hg, fun _ j => by rw [Nat.zero_add]; exact hown.frozenAt j, fun j hj => ?_⟩⟩
 obtain ⟨A, c, c0, c1, hu⟩ := h j hj hj
 exact ⟨A, c, by rw [Nat.zero_add, hown.cellAt (j * 2) (by omega)]; exact c0, by rw [Nat.zero_add, hown.cellAt (j * 2 + 1) (by omega)]; exact c1, hu.mono (new_le (by omega))⟩
def NmV (xs : List Int) (ps : List (Bool × List Nat)) : Prop := ps = xs.map fun x => (decide (x < 0), limbs x.natAbs)
theorem NmV.mk' (xs : List Int) : NmV xs (xs.map fun x => (decide (x < 0), limbs x.natAbs)) := rfl
theorem NmV.len {xs : List Int} {ps : List (Bool × List Nat)} (h : NmV xs ps) : xs.length = ps.length := by subst h; simp
theorem NmV.at {xs : List Int} {ps : List (Bool × List Nat)} (h : NmV xs ps) (j : Nat) (h1 : j < xs.length) (h2 : j < ps.length) : Nm xs[j] ps[j].1 ps[j].2 := by
 subst h
 simp only [List.getElem_map]
 exact Nm.mk' _
theorem NmV.ok {ps : List (Bool × List Nat)} (h : okV ps = true) (hs : ∀ p ∈ ps, Small p.2) : NmV (ps.map fun p => zof p.1 p.2) ps := by
 unfold NmV
 unfold okV at h
 rw [Bool.and_eq_true] at h
 have h2 := List.all_eq_true.1 h.2
 rw [List.map_map]
 refine (List.map_id _).symm.trans (List.map_congr_left fun p hp => ?_)
 have h3 := Nm.ok (h2 p hp) (hs p hp)
 show p = (decide (zof p.1 p.2 < 0), limbs (zof p.1 p.2).natAbs)
 rw [← h3.1, ← h3.2]
theorem NmV.okV {xs : List Int} {ps : List (Bool × List Nat)} (h : NmV xs ps) (hl : ps.length ≤ 64) : okV ps = true := by
 unfold Go.Proofs.YthpngihjcphigaaGreat.okV
 rw [Bool.and_eq_true]
 refine ⟨decide_eq_true hl, List.all_eq_true.2 fun p hp => ?_⟩
 subst h
 obtain ⟨x, _, rfl⟩ := List.mem_map.1 hp
 exact IsZ.ok x
theorem NmV.of {xs : List Int} {ps : List (Bool × List Nat)} (h : xs.length = ps.length) (hj : ∀ j (h1 : j < xs.length) (h2 : j < ps.length), Nm xs[j] ps[j].1 ps[j].2) : NmV xs ps := by
 unfold NmV
 refine List.ext_getElem (by simp [h]) fun j h1 h2 => ?_
 rw [List.getElem_map]
 have h3 := hj j (by omega) h1
 rw [← h3.1, ← h3.2]
theorem IsVs.vec {v : Value} {zs : List Int} {ps : List (Bool × List Nat)} (h : IsVs w v zs) (hp : NmV zs ps) : ∃ A c, v = .slice A ps.length c ∧ VecAt w old A c ps := by
 obtain ⟨A, c, rfl, h1, h2, h3⟩ := h
 have hl := hp.len
 refine ⟨A, c, by rw [hl], by omega, h2, fun h0 => ?_⟩
 obtain ⟨g, rfl, hg, hc⟩ := h3 (by omega)
 refine ⟨g, 0, rfl, trivial, hg, fun h => h.elim, fun j hj => ?_⟩
 obtain ⟨u, c0, c1, hu⟩ := hc j (by omega)
 obtain ⟨B, d, rfl, hu⟩ := hu
 obtain ⟨e1, e2⟩ := hp.at j (by omega) hj
 refine ⟨B, d, ?_, ?_, ?_⟩
 · rw [Nat.zero_add, e1]; exact c0
 · rw [Nat.zero_add, e2]; exact c1
 · rw [e2]; exact hu
theorem vec_ext {ps qs : List (Bool × List Nat)} (h : ps.length = qs.length) (hj : ∀ j (h1 : j < ps.length) (h2 : j < qs.length), ps[j].1 = qs[j].1 ∧ ps[j].2 = qs[j].2) : ps = qs :=
 List.ext_getElem h fun j h1 h2 => Prod.ext (hj j h1 h2).1 (hj j h1 h2).2
theorem same7_all {ps qs : List (Bool × List Nat)} (ha : VecAt w Z A ca ps) (hb : VecAt w Y B cb qs) :
  Calls Tryz.prog 24 #[.slice A ps.length ca, .slice B qs.length cb] w fun e w' => e = .returned (.bool (decide (ps = qs))) ∧ Below w.heap.size w w' := by
 by_cases hl : ps.length = qs.length
 · have hself : ((ps.length : Int) != (ps.length : Int)) = false := bne_self_eq_false _
   have hla := ha.len
   have Hl := hid hl
   rw [← hl]
   clear hl
   go_enter Tryz.func24, Tryz.ntmps24
   go_wp2
   go_loopw [5] (fun i wr => ∃ k : Nat, k ≤ ps.length ∧ i = .int .i64 (k : Int) ∧ Below w.heap.size w wr ∧ Hid (∀ j (h1 : j < ps.length) (h2 : j < qs.length), j < k → ps[j].1 = qs[j].1 ∧ ps[j].2 = qs[j].2)) (fun i _ => ps.length - (intOf i).toNat)
   case atStart => exact ⟨0, Nat.zero_le _, rfl, Below.refl _ _, fun j h1 h2 h => absurd h (by omega)⟩
   case round =>
    obtain ⟨k, hk, rfl, hbel, hz⟩ := hrel
    by_cases hlt : k < ps.length
    · have hltq : k < qs.length := by have := Hl.out; omega
      obtain ⟨b1, o1, B1, d1, rfl, hbb1, p0, p1, hu1⟩ := (ha.below hbel).at hlt
      obtain ⟨b2, o2, B2, d2, rfl, hbb2, r0, r1, hu2⟩ := (hb.below hbel).at hltq
      have i1 : IsI wr.drew Z (.agg #[.bool ps[k].1, .slice B1 ps[k].2.length d1]) ps[k].1 ps[k].2 := IsI.below ⟨_, rfl, B1, d1, rfl, hu1⟩ ((Below.refl _ wr).drew)
      have i2 : IsI wr.drew Y (.agg #[.bool qs[k].1, .slice B2 qs[k].2.length d2]) qs[k].1 qs[k].2 := IsI.below ⟨_, rfl, B2, d2, rfl, hu2⟩ ((Below.refl _ wr).drew)
      have hsm := same5_any i1 i2
      have hcase : decide (ps[k].1 = qs[k].1 ∧ ps[k].2 = qs[k].2) = true ∨ decide (ps[k].1 = qs[k].1 ∧ ps[k].2 = qs[k].2) = false := by cases decide (ps[k].1 = qs[k].1 ∧ ps[k].2 = qs[k].2) <;> simp
      have Hall : Hid (decide (ps[k].1 = qs[k].1 ∧ ps[k].2 = qs[k].2) = true → ∀ j (h1 : j < ps.length) (h2 : j < qs.length), j < k + 1 → ps[j].1 = qs[j].1 ∧ ps[j].2 = qs[j].2) := fun hx j h1 h2 hjk => by
       rcases Nat.lt_or_ge j k with h3 | h3
       · exact hz.out j h1 h2 h3
       · obtain rfl : j = k := by omega
         exact of_decide_eq_true hx
      have Hnone : Hid (decide (ps[k].1 = qs[k].1 ∧ ps[k].2 = qs[k].2) = false → decide (ps = qs) = false) := fun hx => by
       refine decide_eq_false fun h => ?_
       subst h
       simp at hx
      have hbd := hbel.drew
      clear i1 i2 hu1 hu2 hz
      generalize decide (ps[k].1 = qs[k].1 ∧ ps[k].2 = qs[k].2) = R at *
      generalize ps[k].1 = s at *
      generalize ps[k].2.length = l at *
      generalize qs[k].1 = t at *
      generalize qs[k].2.length = l2 at *
      rcases hcase with rfl | rfl
      · have Hsm := hid hsm
        clear hsm
        go_wp2
        go_still_tail 8, (by kernel_rfl)
        change wpList _ _ _ _ _ wr.drew
        go_wp2_with fail
        refine Hsm.out.mono ?_
        rintro e w1 ⟨rfl, hb1⟩
        have hb2 := from_ hbd hb1
        go_wp2
        go_roundw
        case rel => exact ⟨k + 1, by omega, by go_num, hb2, hid (Hall.out (by trivial))⟩
        case measure => simp [intOf]; omega
      · have Hsm := hid hsm
        clear hsm
        go_wp2
        go_still_tail 8, (by kernel_rfl)
        change wpList _ _ _ _ _ wr.drew
        go_wp2_with fail
        refine Hsm.out.mono ?_
        rintro e w1 ⟨rfl, hb1⟩
        have hb2 := from_ hbd hb1
        go_wp2
        go_ret
        rw [Hnone.out (by trivial)]
        exact ⟨rfl, hb2⟩
    · obtain rfl : k = ps.length := by omega
      have he : decide (ps = qs) = true := decide_eq_true (vec_ext Hl.out fun j h1 h2 => hz.out j h1 h2 h1)
      have He := hid he
      clear he hz
      go_wp2
      go_ret
      rw [He.out]
      exact ⟨rfl, hbel⟩
 · have hd : ((ps.length : Int) != (qs.length : Int)) = true := bne_iff_ne.2 (by omega)
   have hd2 : decide (ps = qs) = false := decide_eq_false fun h => hl (by rw [h])
   have hla := ha.len
   have hlb := hb.len
   have hl2 := hl
   rw [hd2]
   clear hd2 ha hb
   generalize ps.length = L at *
   generalize qs.length = M at *
   go_enter Tryz.func24, Tryz.ntmps24
   go_wp2
   go_ret
   exact ⟨rfl, Below.refl _ _⟩
theorem same7_n {ps : List (Bool × List Nat)} (ha : VecAt w Z A ca ps) (hb : VecAt w Y B cb ps) :
  Calls Tryz.prog 24 #[.slice A ps.length ca, .slice B ps.length cb] w fun e w' => e = .returned (.bool true) ∧ Below w.heap.size w w' :=
 (same7_all ha hb).mono fun e w' h => by simpa using h
end Go.Proofs.YthpngihjcphigaaGreat
