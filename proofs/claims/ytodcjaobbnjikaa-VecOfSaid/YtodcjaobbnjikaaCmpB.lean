/-
  The contract of nat.compare. No conditions.
-/
import Derived.RangeFuncNested
import Derived.RangeFuncBound
import Derived.RangeFuncCalls
import Derived.RangeFuncLeaves
import Derived.RangeFuncBox
import Derived.Shelf.Abstract
import Derived.Shelf.RegionOpen
import Derived.WalkKit
import Derived.OwnWalkIn
import Derived.TacticsInMore
import Derived.LoopNIn
import Derived.LoopIn
import Derived.Maps.AppendAt
import Derived.Test.YtodcjaobbnjikaaCmp
import Derived.Test.YtodcjaobbnjikaaNatC
namespace Go.Proofs.Ytodcjaobbnjikaa
open Go.RowKit Go.Shelf
set_option linter.unusedVariables false
set_option linter.unusedSimpArgs false


theorem val_lt_of {la lb : List Nat} (ha : Small la) (hb : Small lb) (hl : la.length = lb.length) (i : Nat) (h1 : i < la.length) (h2 : i < lb.length) (hlt : la[i] < lb[i])
    (heq : ∀ j (h1 : j < la.length) (h2 : j < lb.length), i < j → la[j] = lb[j]) : val la < val lb := by
  induction la generalizing lb i with
  | nil => simp at h1
  | cons x la ih =>
    cases lb with
    | nil => simp at h2
    | cons y lb =>
      simp only [List.length_cons, Nat.add_right_cancel_iff] at hl
      have hx := ha.head
      have hy := hb.head
      cases i with
      | zero =>
        have e : la = lb := by
          apply List.ext_getElem hl
          intro j g1 g2
          have := heq (j + 1) (by simp; omega) (by simp; omega) (by omega)
          simpa using this
        subst e
        simp only [List.getElem_cons_zero] at hlt
        simp only [val]
        omega
      | succ i =>
        have := ih ha.tail hb.tail hl i (by simpa using h1) (by simpa using h2) (by simpa using hlt) (fun j g1 g2 hj => by
          have := heq (j + 1) (by simp; omega) (by simp; omega) (by omega)
          simpa using this)
        simp only [val]
        omega

theorem limbs_len_lt {m n : Nat} (h : (limbs m).length < (limbs n).length) : m < n := by
  rcases Nat.lt_or_ge m n with h1 | h1
  · exact h1
  · have := len_mono h1
    omega

theorem cmp3_lt {x y : Int} (h : x < y) : cmp3 x y = -1 := by simp [cmp3, h]
theorem cmp3_gt {x y : Int} (h : y < x) : cmp3 x y = 1 := by simp only [cmp3]; rw [if_neg (by omega), if_pos h]
theorem cmp3_eq (x : Int) : cmp3 x x = 0 := by simp [cmp3]

set_option maxHeartbeats 800000 in
/-- nat.compare where one has more limbs. -/
theorem compare_len {w : World} {A B : Option Addr} {na nb ca cb : Nat} (ha : na ≤ 9223372036854775807) (hb : nb ≤ 9223372036854775807) (hne : na ≠ nb) :
    Calls Try.prog 77 #[.slice A na ca, .slice B nb cb] w fun e w' => e = .returned (.int .i64 (cmp3 na nb)) ∧ Below w.heap.size w w' := by
  have h0 : ((cmp3 na nb) != 0) = true := by
    rcases Nat.lt_or_gt_of_ne hne with h | h
    · rw [cmp3_lt (by omega)]; rfl
    · rw [cmp3_gt (by omega)]; rfl
  go_enter Try.func77, Try.ntmps77
  go_wp2_with (go_at_call 90; refine (cmp_int _ _ _).mono ?_; rintro e w' ⟨rfl, rfl⟩)
  refine bodyPost_ret (v := .int .i64 (cmp3 na nb)) (by simp [results, Try.f77, go_sem]) rfl ?_
  exact ⟨rfl, by go_grown⟩

/-- What a differing place says. -/
def Tells (la lb : List Nat) (pre : List (Place la)) (c : Int) : Prop :=
  ∃ (ini : List (Place la)) (i : Place la), pre = ini ++ [i] ∧ (∀ j ∈ ini, la[j.1]? = lb[j.1]?) ∧ la[i.1]? ≠ lb[i.1]? ∧ c = cmp3 (la[i.1]?.getD 0 : Nat) (lb[i.1]?.getD 0 : Nat)

theorem tells_cmp {la lb : List Nat} (ha : Small la) (hb : Small lb) (hl : la.length = lb.length) {pre : List (Place la)} {c : Int} (h : Tells la lb pre c) {k : Nat} (hk : k ≤ la.length) (hp : pre.map (·.1) = backs la.length k) : c = cmp3 (val la) (val lb) := by
  obtain ⟨ini, i, rfl, heq, hne, rfl⟩ := h
  rw [List.map_append] at hp
  obtain ⟨k', rfl⟩ : ∃ k', k = k' + 1 := by
    cases k with
    | zero => simp [backs, upto] at hp
    | succ k' => exact ⟨k', rfl⟩
  rw [backs_succ] at hp
  obtain ⟨hini, hi⟩ := List.append_inj' hp rfl
  have hi : i.1 = la.length - 1 - k' := by simpa using hi
  have hall : ∀ j, i.1 < j → j < la.length → la[j]? = lb[j]? := by
    intro j h1 h2
    have hmem : j ∈ ini.map (·.1) := by
      rw [hini]
      simp only [backs, upto, List.mem_map, List.mem_range]
      exact ⟨la.length - 1 - j, by omega, by omega⟩
    obtain ⟨p, hp, rfl⟩ := List.mem_map.1 hmem
    exact heq p hp
  have g1 : i.1 < la.length := i.2
  have g2 : i.1 < lb.length := by omega
  have e1 : la[i.1]? = some la[i.1] := List.getElem?_eq_getElem g1
  have e2 : lb[i.1]? = some lb[i.1] := List.getElem?_eq_getElem g2
  rw [e1, e2] at hne
  rw [e1, e2]
  simp only [Option.getD_some]
  have hne' : la[i.1] ≠ lb[i.1] := fun e => hne (by rw [e])
  rcases Nat.lt_or_gt_of_ne hne' with h | h
  · have := val_lt_of ha hb hl i.1 g1 g2 h (fun j h1 h2 hj => by have := hall j hj h1; rw [List.getElem?_eq_getElem h1, List.getElem?_eq_getElem h2] at this; simpa using this)
    rw [cmp3_lt (by omega), cmp3_lt (by omega)]
  · have := val_lt_of hb ha hl.symm i.1 g2 g1 h (fun j h1 h2 hj => by have := hall j hj h2; rw [List.getElem?_eq_getElem h2, List.getElem?_eq_getElem h1] at this; simpa using this.symm)
    rw [cmp3_gt (by omega), cmp3_gt (by omega)]

section
attribute [local go_sem] Oper.semAt_some


/-- slices.Backward: the slice is boxed; the function value captures the box. -/
theorem back_any (a : Option Addr) (na ca : Nat) (w : World) :
    Calls Try.prog 91 #[.slice a na ca] w fun e w' => e = .returned (.func (.func 106) #[] #[.pointer (some ⟨w.heap.size, 0, none⟩)]) ∧
      w' = w.alloc (.cells #[.slice a na ca] 46) := by
  go_enter Try.func91, Try.ntmps91
  go_wp2
  go_ret
  exact ⟨rfl, rfl⟩

theorem back_stops (F : Fence) (n : Nat) (h8 : F.fn 106) (hro : F.round = none) (hn : 1 ≤ n) (Ba : Nat) (S : Nat → Prop) (hSa : S Ba) (A : Option Addr) (c : Nat) (l : List Nat) (w : World)
    (hS : ∀ k, S k → k < w.heap.size) (hBa : w.cell? ⟨Ba, 0, none⟩ = some (.slice A l.length c)) (ha : U64s w ⟨S, False⟩ A c l) :
    SeqStopsK F n Try.prog 106 #[.pointer (some ⟨Ba, 0, none⟩)] (encB l) (KeptAt S) (fun ys => ys.map (·.1) = backs l.length l.length)
      (fun pre => ∃ k, k ≤ l.length ∧ pre.map (·.1) = backs l.length k) l.length w := fun L J Jx W hW _ _ hY h0 => by
  refine (back1_in F n h8 hro hn L Ba S hSa A c l J Jx hY W ?_ (ha.below hW) h0).mono ?_
  · exact (hW.cell (p := ⟨Ba, 0, none⟩) (hS _ hSa)).trans hBa
  · rintro e W' ⟨he, h | ⟨pre, hp, hx⟩⟩
    · exact ⟨he, .inl h⟩
    · exact ⟨he, .inr ⟨pre, hp, hx⟩⟩

set_option maxRecDepth 100000 in
set_option maxHeartbeats 2000000 in
theorem compare_same {Z Y : Zone} {A B : Option Addr} {ca cb : Nat} {la lb : List Nat} (w : World) (ha : U64s w Z A ca la) (hb : U64s w Y B cb lb) (hl : la.length = lb.length) :
    Calls Try.prog 77 #[.slice A la.length ca, .slice B lb.length cb] w fun e w' => e = .returned (.int .i64 (cmp3 (val la) (val lb))) ∧ Below w.heap.size w w' := by
  have Hl := Lib.hid hl
  have hl1 : la.length ≤ lb.length := by omega
  have hl2 : lb.length ≤ la.length := by omega
  have hce : cmp3 (la.length : Int) (lb.length : Int) = 0 := by rw [hl, cmp3_eq]
  clear hl
  have hwf : ∀ f, Fence.wide.fn f := fun _ => trivial
  refine (callsIn_wide (n := 3)).1 ?_
  refine callsIn_of_wp_marks Try.func77 rfl trivial ?_ rfl
  simp only [Try.ntmps77, List.size_toArray, List.length_cons, List.length_nil, Nat.reduceAdd, Nat.reduceSub, Array.replicate_succ, Array.replicate_zero, List.push_toArray, List.append_toArray, List.nil_append, List.cons_append]
  gi_wp2_with (first | (gi_at_call 90; refine (callsIn_wide.2 (cmp_int _ _ _)).mono ?_; rintro e w' ⟨rfl, rfl⟩) | (gi_at_call 91; refine (callsIn_wide.2 (back_any _ _ _ _)).mono ?_; rintro e w' ⟨rfl, rfl⟩))
  have hB0 : Below w.heap.size w (((w.alloc (.cells #[.slice B lb.length cb] 46)).alloc (.cells #[.int .i64 0] 3)).alloc (.cells #[.slice A la.length ca] 46)) :=
    (((Below.refl _ w).alloc (Nat.le_refl _) _).alloc (by simp) _).alloc (by simp; omega) _
  have bB := ((Boxed.new w 46 (.slice B lb.length cb)).alloc (.cells #[.int .i64 0] 3)).alloc (.cells #[.slice A la.length ca] 46)
  have bR := (Boxed.new (w.alloc (.cells #[.slice B lb.length cb] 46)) 3 (.int .i64 0)).alloc (.cells #[.slice A la.length ca] 46)
  have bA := Boxed.new ((w.alloc (.cells #[.slice B lb.length cb] 46)).alloc (.cells #[.int .i64 0] 3)) 46 (.slice A la.length ca)
  have hsz : (((w.alloc (.cells #[.slice B lb.length cb] 46)).alloc (.cells #[.int .i64 0] 3)).alloc (.cells #[.slice A la.length ca] 46)).heap.size = w.heap.size + 3 := by simp
  simp only [World.size_alloc] at bR bA
  generalize (((w.alloc (.cells #[.slice B lb.length cb] 46)).alloc (.cells #[.int .i64 0] 3)).alloc (.cells #[.slice A la.length ca] 46)) = W0 at *
  obtain ⟨S, hS⟩ : ∃ S : Nat → Prop, S = fun k => k < w.heap.size + 3 ∧ k ≠ w.heap.size + 1 := ⟨_, rfl⟩
  have hSi : ∀ k, S k ↔ (k < w.heap.size + 3 ∧ k ≠ w.heap.size + 1) := fun k => by rw [hS]
  clear hS
  have hS0 : S w.heap.size := (hSi _).2 ⟨by omega, by omega⟩
  have hSb : ∀ b, b < w.heap.size → S b := fun b hb => (hSi _).2 ⟨by omega, by omega⟩
  have Hsz := Lib.hid hsz
  have hszle : W0.heap.size ≤ w.heap.size + 3 := by omega
  have hszge : w.heap.size + 3 ≤ W0.heap.size := by omega
  clear hsz
  have hkK : ∀ (W : World) (l : Nat) (o o' : Obj), W0.heap.size ≤ l → W.heap[l]? = some o → o.isCells = false → o.isWalk = false → KeptAt S W (W.putObj l o') := fun W l o o' hl _ _ _ k hk =>
    World.putObj_heap_other (fun e => by have := (hSi k).1 hk; omega)
  have ua : U64s W0 ⟨S, False⟩ A ca la := ⟨ha.small, ha.cap, ha.max, ha.nul, fun h0 => by
    obtain ⟨b, o, e, _, _, hc⟩ := ha.row h0
    have hlt := lt_of_cell (hc 0 _ (List.getElem?_eq_getElem h0))
    exact ⟨b, o, e, hSb b hlt, fun h => h.elim, fun j u hu => (hB0.cell (p := ⟨b, o + j, none⟩) hlt).trans (hc j u hu)⟩⟩
  have ub : U64s W0 ⟨S, False⟩ B cb lb := ⟨hb.small, hb.cap, hb.max, hb.nul, fun h0 => by
    obtain ⟨b, o, e, _, _, hc⟩ := hb.row h0
    have hlt := lt_of_cell (hc 0 _ (List.getElem?_eq_getElem h0))
    exact ⟨b, o, e, hSb b hlt, fun h => h.elim, fun j u hu => (hB0.cell (p := ⟨b, o + j, none⟩) hlt).trans (hc j u hu)⟩⟩
  have hlm := ha.len
  refine wpIn_rangeFunc_ownG rfl (by omega) (gf := 106) (lb := #[.pointer (some ⟨w.heap.size + 1 + 1, 0, none⟩)]) rfl trivial (enters_of Try.func106 (by kernel_rfl) rfl)
    (back_stops Fence.wide (3 - 1) trivial rfl (by omega) (w.heap.size + 1 + 1) S ((hSi _).2 ⟨by omega, by omega⟩) A ca la W0 (fun k hk => by have := (hSi k).1 hk; omega) bA.cell ua)
    (fun h k => KeptAt.trans h k) hkK (Below.refl _ _) (fun _ => rfl)
    (fun pre W => ((∀ j ∈ pre, la[j.1]? = lb[j.1]?) ∧ Boxed W (w.heap.size + 1) 3 (.int .i64 0)) ∧ ((KeptAt S W0 W ∧ W0.heap.size ≤ W.heap.size) ∧ Below w.heap.size w W))
    (fun c pre W => (∃ r, (c = .ret ∧ Tells la lb pre r) ∧ Boxed W (w.heap.size + 1) 3 (.int .i64 r)) ∧ ((KeptAt S W0 W ∧ W0.heap.size ≤ W.heap.size) ∧ Below w.heap.size w W))
    (OwnFrom.and (OwnFrom.and (ownFrom_pure _ _) (Own.from (boxed_own _ _ _) _)) (OwnFrom.and (keptAt_own (fun k hk => by have := (hSi k).1 hk; omega)) (ownFrom_below (Nat.le_refl _) (by omega))))
    (fun c => OwnFrom.and (fun s X Y row hs hg hr => by
      obtain ⟨r, hp, hb⟩ := hs
      exact ⟨r, hp, hb.kept hg (fun e' => by obtain ⟨_, o, ho, hc⟩ := hr _ e'.symm; rw [show X.heap[w.heap.size + 1]? = _ from hb] at ho; cases ho; cases hc)⟩) (OwnFrom.and (keptAt_own (fun k hk => by have := (hSi k).1 hk; omega)) (ownFrom_below (Nat.le_refl _) (by omega))))
    ⟨⟨fun j hj => by simp at hj, bR⟩, ⟨KeptAt.refl _ _, Nat.le_refl _⟩, hB0⟩
    (fun x => { tmps := #[.slice A la.length ca, .slice B lb.length cb, undef, .pointer (some ⟨w.heap.size, 0, none⟩), .pointer (some ⟨w.heap.size + 1, 0, none⟩), .int .i64 0, .int .i64 (x.1 : Int), .int .u64 ((la[x.1]'x.2 : Nat) : Int), undef,
      .slice A la.length ca, .int .i64 la.length, .slice B lb.length cb, .int .i64 lb.length, .int .i64 0, .int .i64 0, .bool false, undef, .slice A la.length ca, .func (.func 106) #[] #[.pointer (some ⟨w.heap.size + 1 + 1, 0, none⟩)], .int .i64 (x.1 : Int), .int .u64 ((la[x.1]'x.2 : Nat) : Int), undef, undef, undef, undef, undef, undef, undef, undef, undef], defers := [] }) ?assign ?body ?done ?stop
  case assign =>
    intro l x W K hK
    gi_wp2
    exact hK
  case body =>
    rintro l pre ⟨i, hi⟩ W ⟨⟨hall, hbx⟩, ⟨hk, hle⟩, hB⟩ hlt
    have hi2 : i < lb.length := by omega
    have hcb : W.cell? ⟨w.heap.size, 0, none⟩ = some (.slice B lb.length cb) := (hk.cell (p := ⟨w.heap.size, 0, none⟩) hS0).trans bB.cell
    obtain ⟨b, o, rfl, hSb1, _, _, hc⟩ := ub.open (by omega)
    have hx := (hk.cell (p := ⟨b, o + i, none⟩) hSb1).trans (hc i hi2)
    have hbc := hbx.cell
    have hbf := hbx.frozen
    have Hall := Lib.hid hall
    have ea : la[i]? = some la[i] := List.getElem?_eq_getElem hi
    have eb : lb[i]? = some lb[i] := List.getElem?_eq_getElem hi2
    have Ea := Lib.hid ea
    have Eb := Lib.hid eb
    clear hall ea eb hc
    generalize hxa : la[i] = xa at *
    generalize hxb : lb[i] = xb at *
    have Hxa := Lib.hid hxa
    have Hxb := Lib.hid hxb
    clear hxa hxb
    by_cases he : xa = xb
    · have hc0 : cmp3 (xa : Int) (xb : Int) = 0 := by rw [he, cmp3_eq]
      have He := Lib.hid he
      clear he
      gi_wp2_with (gi_at_call 92; refine (CallsIn.inRound l (callsIn_wide.2 (cmp_u64 _ _ _))).mono ?_; rintro e w' ⟨rfl, rfl⟩)
      refine ⟨KeepsFrom.refl _ _, KeptAt.refl _ _, ⟨fun j hj => ?_, hbx⟩, ⟨hk, hle⟩, hB⟩
      rcases List.mem_append.1 hj with hj | hj
      · exact Hall.out j hj
      · obtain rfl := List.mem_singleton.1 hj
        show la[i]? = lb[i]?
        rw [Ea.out, Eb.out, He.out]
    · have hc0 : (cmp3 (xa : Int) (xb : Int) != 0) = true := by
        rcases Nat.lt_or_gt_of_ne he with h | h
        · rw [cmp3_lt (by omega)]; rfl
        · rw [cmp3_gt (by omega)]; rfl
      have He := Lib.hid he
      clear he
      gi_wp2_with (gi_at_call 92; refine (CallsIn.inRound l (callsIn_wide.2 (cmp_u64 _ _ _))).mono ?_; rintro e w' ⟨rfl, rfl⟩)
      have hkS : KeptAt S W (W.setCell ⟨w.heap.size + 1, 0, none⟩ (.int .i64 (cmp3 (xa : Int) (xb : Int)))) := fun k hk => Below.heap_setCell _ _ _ _ ((hSi k).1 hk).2
      refine ⟨(KeepsOthers.setCell _ _ _).from _, ⟨_, ⟨rfl, pre, ⟨i, hi⟩, rfl, Hall.out, ?_, ?_⟩, hbx.set _⟩, ⟨hk.trans hkS, by simpa [World.setCell] using hle⟩, hB.setCell (p := ⟨w.heap.size + 1, 0, none⟩) (by simp) _⟩
      · show la[i]? ≠ lb[i]?
        rw [Ea.out, Eb.out]
        exact fun e => He.out (by injection e)
      · show _ = cmp3 ((la[i]?.getD 0 : Nat) : Int) ((lb[i]?.getD 0 : Nat) : Int)
        rw [Ea.out, Eb.out]
        rfl
  case done =>
    rintro D ys W hD hys ⟨⟨hall, hbx⟩, ⟨hk, hle⟩, hB⟩ hK
    have hbc := hbx.cell
    have hbf := hbx.frozen
    gi_wp2
    have hK' := (KeepsOthers.setCell W ⟨w.heap.size + 1, 0, none⟩ (.int .i64 0)).same D _ hK rfl
    refine ⟨by simp, .inl ⟨_, _, rfl, run_takeDeferred hK', ?_⟩⟩
    have hc5 := cell_kept (hbx.set (.int .i64 0)).cell (grownBy_putObj' _ D (.deferred none)) (fun r e => by cases e; exact ⟨_, hK', rfl⟩)
    have heq : la = lb := by
      apply List.ext_getElem Hl.out
      intro j h1 h2
      have hmem : j ∈ ys.map (·.1) := by
        rw [hys]
        simp only [backs, upto, List.mem_map, List.mem_range]
        exact ⟨la.length - 1 - j, by omega, by omega⟩
      obtain ⟨p, hp, rfl⟩ := List.mem_map.1 hmem
      have := hall p hp
      rw [List.getElem?_eq_getElem h1, List.getElem?_eq_getElem h2] at this
      simpa using this
    refine ⟨.int .i64 0, ?_, ?_, (hB.setCell (p := ⟨w.heap.size + 1, 0, none⟩) (by simp) _).trans (belowK_b (w := w) (Nat.le_refl _) _ D _ (.deferred none) (by omega) hK' rfl rfl)⟩
    · simp [results, Try.f77, go_sem, hc5]
    · rw [heq, cmp3_eq]
  case stop =>
    rintro D c pre W hD ⟨k, hk', hpre⟩ ⟨⟨r, ⟨rfl, ht⟩, hbx⟩, ⟨hk, hle⟩, hB⟩ hK
    have hbc := hbx.cell
    gi_wp2
    refine ⟨by simp, .inl ⟨_, _, rfl, run_takeDeferred hK, ?_⟩⟩
    have hc5 := cell_kept hbc (grownBy_putObj' _ D (.deferred none)) (fun r e => by cases e; exact ⟨_, hK, rfl⟩)
    refine ⟨.int .i64 r, ?_, ?_, hB.trans (belowK_b (w := w) (Nat.le_refl _) _ D _ (.deferred none) (by omega) hK rfl rfl)⟩
    · simp [results, Try.f77, go_sem, hc5]
    · rw [tells_cmp ha.small hb.small Hl.out ht hk' hpre]
end

theorem compare_num {w : World} {Z Y : Zone} {a b : Value} {m n : Nat} (ha : IsN w Z a m) (hb : IsN w Y b n) :
    Calls Try.prog 77 #[a, b] w fun e w' => e = .returned (.int .i64 (cmp3 m n)) ∧ Below w.heap.size w w' := by
  obtain ⟨A, ca, rfl, ha⟩ := ha
  obtain ⟨B, cb, rfl, hb⟩ := hb
  by_cases hl : (limbs m).length = (limbs n).length
  · have := compare_same w ha hb hl
    rwa [val_limbs, val_limbs] at this
  · have h := compare_len (w := w) (A := A) (B := B) (ca := ca) (cb := cb) ha.len hb.len hl
    have e : cmp3 ((limbs m).length : Int) ((limbs n).length : Int) = cmp3 (m : Int) (n : Int) := by
      rcases Nat.lt_or_gt_of_ne hl with g | g
      · have := limbs_len_lt g
        rw [cmp3_lt (by omega), cmp3_lt (by omega)]
      · have := limbs_len_lt g
        rw [cmp3_gt (by omega), cmp3_gt (by omega)]
    rwa [e] at h

end Go.Proofs.Ytodcjaobbnjikaa
