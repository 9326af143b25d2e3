/-
  Lists of rows: Kernel. No conditions but bounds on lengths.
-/
import Derived.RangeFuncNested
import Derived.RangeFuncBound
import Derived.RangeFuncCalls
import Derived.RangeFuncLeaves
import Derived.RangeFuncBox
import Derived.Shelf.Abstract
import Derived.Shelf.RegionOpen
import Derived.WalkKit
import Derived.OwnWalkIn
import Derived.TacticsInMore
import Derived.LoopNIn
import Derived.LoopIn
import Derived.BigRegionIn
import Derived.BigQuiet
import Derived.Deep.DeepCutAuto
import Derived.OrdersHeld
import Derived.Stop.RegionWithIn
import Derived.Deep.RegionHeld3
import Derived.Test.YtajmijnoikkffaaGreatNRowY
import Derived.Test.YtajmijnoikkffaaGreatNFenceR
namespace Go.Proofs.YtajmijnoikkffaaGreat
open Go.RowKit Go.Shelf
set_option linter.unusedVariables false
set_option linter.unusedSimpArgs false

section
attribute [local go_sem] Oper.semAt_some

set_option maxRecDepth 100000 in
set_option maxHeartbeats 4000000 in
theorem kernel_ok {w : World} {Z : Zone} {A : Option Addr} {c n B0 M : Nat} {l : List (List Int)} (hl : MatN w Z A c n l) (h0 : 0 < n) (hn : n ≤ 64) (hm : l.length ≤ 1024) (hs : ∀ x ∈ l, SzV B0 x) (hbig : bigF B0 (formF n l).length) (hM : ∀ r ∈ formF n l, SzV M r) (hbig2 : bigF (1 + ((formF n l).length + 1) * M) (n - (formF n l).length)) :
    Calls Tryz.prog 7 #[.int .i64 (n : Int), .slice A l.length c] w fun e w' => ∃ A2 c2, e = .returned (.tuple #[.slice A2 (kerF n (formF n l)).length c2, .int .i64 0]) ∧ MatN w' old A2 c2 n (kerF n (formF n l)) ∧ Below w.heap.size w w' := by
  have hal0 : Below w.heap.size w (w.alloc (.cells #[.int .i64 (n : Int)] 3)) := (Below.refl _ _).alloc (Nat.le_refl _) _
  have hck := rowscheck_any (hl.2.below hal0)
  rw [errR_enc hl.1 h0 hn hm, List.length_map] at hck
  have Hck := Lib.hid hck
  have bL := Boxed.new w 3 (.int .i64 (n : Int))
  have C1 : Hid (∀ W, Below w.heap.size w W → Calls Tryz.prog 15 #[.slice A l.length c] W fun e w' => ∃ g, e = .returned (.pointer (some ⟨g, 0, none⟩)) ∧ (∃ A2 c2 xs, FormAt w' W.heap.size g n (formF n l).length (formF n l) A2 c2 xs) ∧ Below W.heap.size W w') := fun W g => formed_any (hl.below g) hn hs hbig
  have HAT : Hid (∀ W, Below w.heap.size w W → ∀ (_ : 0 < l.length), ∃ b o B2 d2, A = some ⟨b, o, none⟩ ∧ b < W.heap.size ∧ W.cell? ⟨b, o, none⟩ = some (.slice B2 n d2)) := fun W g h3 => by
    obtain ⟨b, o, B2, d2, e, hb, hc, _⟩ := (hl.below g).at h3
    exact ⟨b, o, B2, d2, e, hb, by simpa using hc⟩
  have hi := formF_inv hl.1
  have hlen := hl.len
  have t2 : ((n : Int) != (n : Int)) = false := bne_self_eq_false _
  have t3 : decide ((n : Int) < 1) = false := decide_eq_false (by omega)
  have t4 : decide ((64 : Int) < (n : Int)) = false := decide_eq_false (by omega)
  have Hal0 := Lib.hid hal0
  clear hck hl hs hbig hal0
  generalize formF n l = F at *
  generalize l.length = N at *
  have hwf : ∀ f, Fence.wide.fn f := fun _ => trivial
  refine (callsIn_wide (n := 3)).1 ?_
  refine callsIn_of_wp_marks Tryz.func7 rfl trivial ?_ rfl
  simp only [Tryz.ntmps7, List.size_toArray, List.length_cons, List.length_nil, Nat.reduceAdd, Nat.reduceSub, Array.replicate_succ, Array.replicate_zero, List.push_toArray, List.append_toArray, List.nil_append, List.cons_append]
  refine wpIn_wide.2 ?_
  go_wp2_with fail
  refine Hck.out.mono ?_
  rintro e w1 ⟨rfl, hc⟩
  have hB1 := from_ Hal0.out hc
  have bL1 := Boxed.below_ bL hc
  have x0 := bL1.cell
  clear hc bL Hck
  go_upto_region 6 with fail
  go_cut [22] from 23 to 33 (fun s22 wx => s22 = .bool false ∧ Below w1.heap.size w1 wx)
  case first =>
    by_cases hN : 0 < N
    · have hd : decide ((0 : Int) < (N : Int)) = true := decide_eq_true (by omega)
      have hd2 : decide (0 < N) = true := decide_eq_true hN
      obtain ⟨b, o, B2, d2, rfl, hbb, hcell⟩ := HAT.out _ hB1 hN
      go_quiet (fail)
      go_wp2
      go_meet
      exact ⟨rfl, below_drewN (Below.refl _ _) _⟩
    · obtain rfl : N = 0 := by omega
      clear HAT hN hlen
      go_quiet (fail)
      go_wp2
      go_meet
      exact ⟨rfl, below_drewN (Below.refl _ _) _⟩
  case rest =>
    obtain ⟨rfl, hcw⟩ := hcut
    clear HAT x0
    rename World => wr
    have hBr := from_ hB1 hcw
    have bL2 := Boxed.below_ bL1 hcw
    clear hcw hB1 bL1
    go_wp2_with fail
    refine (C1.out _ hBr).mono ?_
    rintro e w2 ⟨g, rfl, ⟨A2, c2, xs2, hf⟩, hc⟩
    have hB2 := from_ hBr hc
    have bL3 := Boxed.below_ bL2 hc
    clear hc hBr bL2 C1
    go_upto_region 10 with fail
    have b7 := ((Boxed.new w2 46 (.pointer (some ⟨g, 0, none⟩))).alloc (.cells #[.slice none 0 0] 50)).alloc (.cells #[.pointer (some ⟨w2.heap.size + 1, 0, none⟩)] 46)
    have bO := (Boxed.new (w2.alloc (.cells #[.pointer (some ⟨g, 0, none⟩)] 46)) 50 (.slice none 0 0)).alloc (.cells #[.pointer (some ⟨w2.heap.size + 1, 0, none⟩)] 46)
    have b8 := Boxed.new ((w2.alloc (.cells #[.pointer (some ⟨g, 0, none⟩)] 46)).alloc (.cells #[.slice none 0 0] 50)) 46 (.pointer (some ⟨w2.heap.size + 1, 0, none⟩))
    have hB3 : Below w2.heap.size w2 (((w2.alloc (.cells #[.pointer (some ⟨g, 0, none⟩)] 46)).alloc (.cells #[.slice none 0 0] 50)).alloc (.cells #[.pointer (some ⟨w2.heap.size + 1, 0, none⟩)] 46)) := (((Below.refl _ w2).alloc (Nat.le_refl _) _).alloc (by simp) _).alloc (by simp; omega) _
    have hsz3 : (((w2.alloc (.cells #[.pointer (some ⟨g, 0, none⟩)] 46)).alloc (.cells #[.slice none 0 0] 50)).alloc (.cells #[.pointer (some ⟨w2.heap.size + 1, 0, none⟩)] 46)).heap.size = w2.heap.size + 3 := by simp
    simp only [World.size_alloc] at bO b8
    have bL4 := Boxed.below_ bL3 hB3
    have hLC : w.heap.size < w2.heap.size := bL3.lt
    clear bL3
    generalize (((w2.alloc (.cells #[.pointer (some ⟨g, 0, none⟩)] 46)).alloc (.cells #[.slice none 0 0] 50)).alloc (.cells #[.pointer (some ⟨w2.heap.size + 1, 0, none⟩)] 46)) = W3 at *
    generalize hC : w2.heap.size = C at *
    have HC := Lib.hid hC
    have HSZ := Lib.hid hsz3
    clear hC hsz3
    have x0 := bL4.cell
    go_wp2_with (go_at_call 18; refine (places_any _ _).mono ?_; rintro e w' ⟨rfl, rfl⟩)
    obtain ⟨hki, hkl, hkM⟩ : (∀ r ∈ F, pk n r ≠ 0) ∧ F.length ≤ n ∧ (∀ r ∈ F, SzV M r) := ⟨hi.piv, hi.le, hM⟩
    have bA := Boxed.new W3 3 (.int .i64 (n : Int))
    have hal9 : Below W3.heap.size W3 (W3.alloc (.cells #[.int .i64 (n : Int)] 3)) := (Below.refl _ _).alloc (Nat.le_refl _) _
    have hsz0 : (W3.alloc (.cells #[.int .i64 (n : Int)] 3)).heap.size = C + 4 := by simp [HSZ.out]
    rw [HSZ.out] at bA ⊢
    have hB4 : Below C w2 (W3.alloc (.cells #[.int .i64 (n : Int)] 3)) := hB3.trans (hal9.mono (by rw [HSZ.out]; omega))
    replace b7 := Boxed.below_ b7 hal9
    replace b8 := Boxed.below_ b8 hal9
    replace bO := Boxed.below_ bO hal9
    have bL5 := Boxed.below_ bL4 hal9
    clear hal9 hB3 bL4 x0
    generalize W3.alloc (.cells #[.int .i64 (n : Int)] 3) = W0 at *
    have hform0 : FormAt W0 (C + 1) (C + 1) n 0 [] none 0 [] := ⟨rfl, bO.cell, bO.frozen, Nat.le_refl _, World.ownsRow_nil _ _ _ _, fun a h => by (cases h), by simp, fun j h => absurd h (by simp)⟩
    obtain ⟨S, hS⟩ : ∃ S : Nat → Prop, S = fun k => k < C + 4 ∧ k ≠ C + 1 := ⟨_, rfl⟩
    have hSi : ∀ k, S k ↔ (k < C + 4 ∧ k ≠ C + 1) := fun k => by rw [hS]
    clear hS
    have hkK : ∀ (W : World) (l : Nat) (o o' : Obj), W0.heap.size ≤ l → W.heap[l]? = some o → o.isCells = false → o.isWalk = false → KeptAt S W (W.putObj l o') := fun W l o o' hl _ _ _ k hk =>
      World.putObj_heap_other (fun e => by have := (hSi k).1 hk; omega)
    refine (wpIn_wide (n := 3)).1 ?_
    refine wpIn_rangeFunc_ownH rfl (by omega) (gf := 37) (lb := #[.pointer (some ⟨C + 3, 0, none⟩)]) rfl trivial (enters_of Tryz.func37 (by kernel_rfl) rfl)
      (places_stops Fence.wide (3 - 1) trivial rfl (by omega) (C + 3) S ((hSi _).2 ⟨by omega, by omega⟩) n (by omega) W0 (fun k hk => by have := (hSi k).1 hk; omega) bA.cell)
      (fun h k => KeptAt.trans h k) hkK (Below.refl _ _) (fun _ => rfl)
      (fun pre W => (∃ A3 c3 xs3, FormAt W (C + 1) (C + 1) n (outK n F (pre.map fun x => keyI n x.1)).length (outK n F (pre.map fun x => keyI n x.1)) A3 c3 xs3) ∧ ((KeptAt S W0 W ∧ W0.heap.size ≤ W.heap.size) ∧ Below C w2 W))
      (fun c pre W => False)
      (OwnFrom.and (fun s X Y row hs hg hr => by
        obtain ⟨A3, c3, xs3, h⟩ := hs
        exact ⟨A3, c3, xs3, h.cellsK hg.size (grown_cells hg (fun r e => (hr r e).2))⟩) (OwnFrom.and (keptAt_own (fun k hk => by have := (hSi k).1 hk; omega)) (ownFrom_below (Nat.le_of_eq HC.out.symm) (by omega))))
      (fun c => ownFrom_pure _ _)
      ⟨⟨none, 0, [], hform0⟩, ⟨KeptAt.refl _ _, Nat.le_refl _⟩, hB4⟩
      (fun x a' W => ∃ b9 : Nat, a' = { tmps := #[.int .i64 (n : Int), .slice A N c, .pointer (some ⟨w.heap.size, 0, none⟩), undef, .slice none 0 0, .int .i64 0, .int .i64 0, .pointer (some ⟨C, 0, none⟩), .pointer (some ⟨C + 1 + 1, 0, none⟩), .pointer (some ⟨b9, 0, none⟩), .slice A N c, .int .i64 0, .int .i64 0, .bool false, undef, .bool false, .int .i64 (n : Int), .bool false, .bool false, .int .i64 (n : Int), .bool false, .bool false, .bool false, u23, u24, u25, u26, u27, u28, u29, u30, u31, u32, u33, .slice A N c, .pointer (some ⟨g, 0, none⟩), .agg #[.slice none 0 0], .pointer (some ⟨C + 1, 0, none⟩), .int .i64 (n : Int), .func (.func 37) #[] #[.pointer (some ⟨C + 3, 0, none⟩)], .int .i64 (x.1 : Int), undef, undef, undef, undef, undef, undef, undef, undef, undef, undef, undef, undef, undef, undef, undef, undef], defers := [] } ∧ Boxed W b9 3 (.int .i64 (x.1 : Int)))
      (fun x a' s X Y row hs hg hr => by
        obtain ⟨b9, e, hb⟩ := hs
        exact ⟨b9, e, hb.kept hg (fun e' => by obtain ⟨_, o, ho, hc⟩ := hr _ e'.symm; rw [show X.heap[b9]? = _ from hb] at ho; cases ho; cases hc)⟩)
      ?assign ?body ?done ?stop
    case assign =>
      rintro l pre x W K ⟨⟨A3, c3, xs3, h⟩, ⟨hk, hle⟩, hB⟩ hK
      gi_wp2
      have hal : Below W.heap.size W (W.alloc (.cells #[.int .i64 (x.1 : Int)] 3)) := (Below.refl _ _).alloc (Nat.le_refl _) _
      have hkS : KeptAt S W (W.alloc (.cells #[.int .i64 (x.1 : Int)] 3)) := fun k hk => hal.block k (by have := (hSi k).1 hk; omega)
      have hCw : C ≤ W.heap.size := by have := hB.size; rw [HC.out] at this; exact this
      exact hK _ _ ((keepsOthers_below hal).from _) hkS ⟨⟨A3, c3, xs3, h.below hal⟩, ⟨hk.trans hkS, Nat.le_trans hle hal.size⟩, hB.trans (hal.mono hCw)⟩ ⟨_, rfl, Boxed.new W 3 _⟩
    case body =>
      rintro l pre ⟨i, hin⟩ a' W hll hloop ⟨⟨A3, c3, xs3, hform⟩, ⟨hk, hle⟩, hB⟩ ⟨b9, rfl, hb9⟩ hlt
      obtain ⟨k1, k2, hki2⟩ := keyI_spec hin
      have hB' : Below w2.heap.size w2 W := by rw [HC.out]; exact hB
      have hCw : C ≤ W.heap.size := by have := hB'.size; rw [HC.out] at this; exact this
      have hfW := hf.below hB'
      have hgc := hfW.box
      have h7 : Boxed W C 46 (.pointer (some ⟨g, 0, none⟩)) := (hk C ((hSi _).2 ⟨by omega, by omega⟩)).trans b7
      have h8 : Boxed W (C + 1 + 1) 46 (.pointer (some ⟨C + 1, 0, none⟩)) := (hk (C + 1 + 1) ((hSi _).2 ⟨by omega, by omega⟩)).trans b8
      have hA : Boxed W (C + 3) 3 (.int .i64 (n : Int)) := (hk (C + 3) ((hSi _).2 ⟨by omega, by omega⟩)).trans bA
      have hL : Boxed W w.heap.size 3 (.int .i64 (n : Int)) := (hk w.heap.size ((hSi _).2 ⟨by omega, by omega⟩)).trans bL5
      have x7 := h7.cell
      have x8 := h8.cell
      have x9 := hb9.cell
      have xL := hL.cell
      have x9' : W.cell? ⟨b9, 0, none⟩ = some (.int .i64 ((keyI n i % n : Nat) : Int)) := by rw [hki2]; exact x9
      have hCON := kcontains_any hfW.mat hki k1 k2 x9'
      have hpre : ∀ k ∈ pre.map (fun x => keyI n x.1), 1 ≤ k ∧ k ≤ n := fun k hk => by
        obtain ⟨⟨q, hq⟩, _, rfl⟩ := List.mem_map.1 hk
        have h := keyI_spec hq
        exact ⟨h.1, h.2.1⟩
      have HCON := Lib.hid hCON
      have hcases : isP n F (keyI n i) = true ∨ isP n F (keyI n i) = false := by cases isP n F (keyI n i) <;> simp
      have HSi := Lib.hid hSi
      clear hCON hSi hkK hform0 b7 b8 bO bL5
      rcases hcases with hP | hP
      · rw [hP] at HCON
        have HPT := Lib.hid hP
        have HF := Lib.hid hform
        have HK := Lib.hid hk
        have HB := Lib.hid hB
        clear hP hform hk hB hfW hB'
        gi_wp2_with (gi_at_call 19; refine (CallsIn.inRound l (callsIn_wide.2 HCON.out)).mono ?_; rintro e w3 ⟨rfl, hc3⟩)
        have hkS : KeptAt S W w3 := fun k hk => hc3.block k (by have := (HSi.out k).1 hk; omega)
        refine ⟨(keepsOthers_below hc3).from _, hkS, ⟨A3, c3, xs3, ?_⟩, ⟨HK.out.trans hkS, Nat.le_trans hle hc3.size⟩, HB.out.trans (hc3.mono hCw)⟩
        rw [List.map_append, List.map_singleton, outK_piv HPT.out]
        exact HF.out.below hc3
      · rw [hP] at HCON
        have hinv := outK_inv (F := F) hpre
        have hlen9 := outK_length hi hpre
        have hszv := outK_szv hkM hpre
        have hbd := bigF_down hbig2 (Nat.le_refl _) hlen9
        have hacl : SzV (1 + (F.length + 1) * M) (acF n F (keyI n i)) := szv_acF hkM
        have hd3 : ∀ W', Below W.heap.size W W' → Calls Tryz.prog 23 #[.pointer (some ⟨g, 0, none⟩), .int .i64 (n : Int), .int .i64 (i : Int)] W' fun e w' => ∃ Av cv, e = .returned (.slice Av n cv) ∧ RowAt w' (since W'.heap.size) Av cv n (acF n F (keyI n i)) ∧ Below W'.heap.size W' w' := fun W' hw => by
          have h1 := across_ok (hfW.below hw).box (hfW.below hw).mat hki k1 k2 hn hkM (by unfold bigF at hbig2; omega)
          rw [hki2] at h1
          exact h1
        have HPUT : Hid (∀ W' Av cv Y, FormAt W' (C + 1) (C + 1) n (outK n F (pre.map fun x => keyI n x.1)).length (outK n F (pre.map fun x => keyI n x.1)) A3 c3 xs3 → RowAt W' Y Av cv n (acF n F (keyI n i)) → C + 1 ≤ W'.heap.size → Calls Tryz.prog 22 #[.pointer (some ⟨C + 1, 0, none⟩), .slice Av n cv] W' fun e w' => (∃ v, e = .returned v) ∧ (∃ A2 c2 xs2, FormAt w' (C + 1) (C + 1) n (putF n (outK n F (pre.map fun x => keyI n x.1)) (acF n F (keyI n i))).length (putF n (outK n F (pre.map fun x => keyI n x.1)) (acF n F (keyI n i))) A2 c2 xs2) ∧ OffB (C + 1) (C + 1) A3 W' w') := fun W' Av cv Y h1 h2 h3 =>
          put_any h1 hinv h2 hn hacl hszv (by unfold bigF at hbd; omega) h3
        have HPF := Lib.hid hP
        have Hform := Lib.hid hform
        have HK := Lib.hid hk
        have HB := Lib.hid hB
        have HB8 := Lib.hid h8
        have HBA := Lib.hid hA
        have HB9 := Lib.hid hb9
        have HAL := Lib.hid hd3
        clear hP hform hk hB hfW hB' hinv hlen9 hszv hbd hacl h7 h8 hA hb9 hL hpre x9' hd3 hki2
        gi_wp2_with (gi_at_call 19; refine (CallsIn.inRound l (callsIn_wide.2 HCON.out)).mono ?_; rintro e w3 ⟨rfl, hc3⟩)
        have Hd3 := Lib.hid (from_ hc3 (Below.refl _ w3).drew)
        have HAC := Lib.hid (HAL.out _ Hd3.out)
        have e7 := keepC Hd3.out x7
        have e8 := keepC Hd3.out x8
        have e9 := keepC Hd3.out x9
        have eL := keepC Hd3.out xL
        clear x7 x8 x9 xL hgc hc3 HAL HCON
        refine wpIn_region_heldR (fun w' => w'.cell? ⟨C + 1 + 1, 0, none⟩ = some (.pointer (some ⟨C + 1, 0, none⟩)) ∧ w'.cell? ⟨C, 0, none⟩ = some (.pointer (some ⟨g, 0, none⟩)) ∧ w'.cell? ⟨w.heap.size, 0, none⟩ = some (.int .i64 (n : Int)) ∧ w'.cell? ⟨b9, 0, none⟩ = some (.int .i64 (i : Int))) (by kernel_rfl) (by kernel_rfl) ?hL ?_
        case hL =>
          rintro ⟨a, w', h⟩
          exact h
        have HS0 := And.intro e8 (And.intro e7 (And.intro eL e9))
        show wpAnyH _ _ _ _ _ 6 _ _ _
        refine wpAnyH_take (i := 0) (v := ?v0) rfl (by kernel_rfl) (by kernel_rfl) (by kernel_rfl) (fun _ _ _ h => h) (Or.inl ⟨by rfl, ?y0⟩) HS0 ?r0
        case y0 =>
          rintro w' ⟨h1, h2, h3, h4⟩
          go_simp
          try with_reducible rfl
        refine wpAnyH_take (i := 1) (v := ?v1) rfl (by kernel_rfl) (by kernel_rfl) (by kernel_rfl) (fun _ _ _ h => h) (Or.inl ⟨by rfl, ?y1⟩) HS0 ?r1
        case y1 =>
          rintro w' ⟨h1, h2, h3, h4⟩
          go_simp
          try with_reducible rfl
        refine wpAnyH_take (i := 2) (v := ?v2) rfl (by kernel_rfl) (by kernel_rfl) (by kernel_rfl) (fun _ _ _ h => h) (Or.inl ⟨by rfl, ?y2⟩) HS0 ?r2
        case y2 =>
          rintro w' ⟨h1, h2, h3, h4⟩
          go_simp
          try with_reducible rfl
        refine wpAnyH_take (i := 3) (v := ?v3) rfl (by kernel_rfl) (by kernel_rfl) (by kernel_rfl) (fun _ _ _ h => h) (Or.inl ⟨by rfl, ?y3⟩) HS0 ?r3
        case y3 =>
          rintro w' ⟨h1, h2, h3, h4⟩
          go_simp
          try with_reducible rfl
        refine anyH_one (i := 4) (by kernel_rfl) (wpOp_step rfl (by rfl) fun K hK => ?_)
        go_simp
        refine HAC.out.mono ?_
        rintro e w5 ⟨Av, cv, rfl, hrow, hc5⟩
        have f8 := keepC hc5 e8
        have f7 := keepC hc5 e7
        have fL := keepC hc5 eL
        have f9 := keepC hc5 e9
        refine hK _ _ ⟨And.intro f8 (And.intro f7 (And.intro fL f9)), ?_⟩
        clear hK K
        have hb5 := from_ Hd3.out hc5
        have hform5 := Hform.out.below hb5
        have hpt := HPUT.out w5 Av cv _ hform5 hrow (by have := hb5.size; omega)
        refine anyH_one (i := 5) (by kernel_rfl) (wpOp_step rfl (by rfl) fun K hK => ?_)
        go_simp
        refine hpt.mono ?_
        rintro e w6 ⟨⟨v, rfl⟩, ⟨A6, c6, xs6, hform6⟩, hoff⟩
        have hk5 : KeptAt S W w5 := fun k hk => hb5.block k (by have := (HSi.out k).1 hk; omega)
        have hk6 : KeptAt S w5 w6 := fun k hk => by
          have hks := (HSi.out k).1 hk
          have hkl : k < w5.heap.size := by have := hb5.size; omega
          refine hoff.off k hkl hks.2 fun a ha e => ?_
          have h1 := hform5.own.lt a.block (by rw [ha]; rfl)
          have ho := FormAt.obj hform5 ha
          rcases Nat.lt_or_ge k (C + 1) with h2 | h2
          · omega
          · rcases Nat.lt_or_ge k (C + 3) with h3 | h3
            · have h4 : k = C + 1 + 1 := by omega
              have h5 := Boxed.below_ HB8.out hb5
              rw [e, h4] at ho
              obtain ⟨cur, ho⟩ := ho
              rw [show w5.heap[C + 1 + 1]? = _ from h5] at ho
              injection ho with ho
              injection ho with _ ho _
              exact absurd ho (by decide)
            · have h4 : k = C + 3 := by omega
              have h5 := Boxed.below_ HBA.out hb5
              rw [e, h4] at ho
              obtain ⟨cur, ho⟩ := ho
              rw [show w5.heap[C + 3]? = _ from h5] at ho
              injection ho with ho
              injection ho with _ ho _
              exact absurd ho (by decide)
        have hkS := hk5.trans hk6
        have g9 : Boxed w6 b9 3 (.int .i64 (i : Int)) := by
          have h5 := Boxed.below_ HB9.out hb5
          refine (hoff.off b9 h5.lt (fun e => ?_) (fun a ha e => ?_)).trans h5
          · have h6 := h5.cell
            rw [e] at h6
            exact nomatch Option.some.inj (h6.symm.trans hform5.box)
          · obtain ⟨cur, ho⟩ := FormAt.obj hform5 ha
            rw [e, show w5.heap[b9]? = _ from h5] at ho
            injection ho with ho
            injection ho with _ ho _
            exact absurd ho (by decide)
        have gL : w6.cell? ⟨w.heap.size, 0, none⟩ = some (.int .i64 (n : Int)) := (hoff.bel.cell (p := ⟨w.heap.size, 0, none⟩) (show w.heap.size < C + 1 by omega)).trans fL
        have g7 : w6.cell? ⟨C, 0, none⟩ = some (.pointer (some ⟨g, 0, none⟩)) := (hoff.bel.cell (p := ⟨C, 0, none⟩) (show C < C + 1 by omega)).trans f7
        have g8 : w6.cell? ⟨C + 1 + 1, 0, none⟩ = some (.pointer (some ⟨C + 1, 0, none⟩)) := (hk6.cell (p := ⟨C + 1 + 1, 0, none⟩) ((HSi.out _).2 ⟨by show C + 1 + 1 < C + 4; omega, by show C + 1 + 1 ≠ C + 1; omega⟩)).trans f8
        refine hK _ _ ⟨And.intro g8 (And.intro g7 (And.intro gL g9.cell)), ?_⟩
        clear hK K
        refine wpAnyH_done (by kernel_rfl) ?_ _
        have hK6 : KeepsOthers W w6 := (keepsOthers_below hb5).trans (OffB.keeps hform5 hoff)
        have hsz6 := hK6.size
        refine ⟨hK6.from _, hkS, ⟨A6, c6, xs6, ?_⟩, ⟨HK.out.trans hkS, by omega⟩, HB.out.trans ((hb5.mono (by omega)).trans (hoff.bel.mono (by omega)))⟩
        rw [List.map_append, List.map_singleton, outK_free HPF.out]
        exact hform6
    case done =>
      rintro D ys W hD hys ⟨⟨A3, c3, xs3, hform⟩, ⟨hk, hle⟩, hB⟩ hK
      have e9 : outK n F (ys.map fun x => keyI n x.1) = kerF n F := by
        have h1 : (ys.map fun x => keyI n x.1) = (ys.map (·.1)).map (keyI n) := by rw [List.map_map]; rfl
        rw [h1, ord_keys hys, outK_all]
      rw [e9] at hform
      have h8 : Boxed W (C + 1 + 1) 46 (.pointer (some ⟨C + 1, 0, none⟩)) := (hk (C + 1 + 1) ((hSi _).2 ⟨by omega, by omega⟩)).trans b8
      have x8 := h8.cell
      have xO := hform.box
      have hg := grownBy_putObj' W D (.deferred none)
      have hfin := (hform.cellsK hg.size (grown_cells hg (fun r e => by cases e; exact ⟨_, hK, rfl⟩))).mat.mono (le_old _)
      have hCw : C ≤ W.heap.size := by have := hB.size; rw [HC.out] at this; exact this
      have hBW : Below w.heap.size w W := hB2.trans (hB.mono (by omega))
      have hbf := hBW.trans (belowK_b (w := w) (Nat.le_refl _) _ D _ (.deferred none) (by omega) hK rfl rfl)
      have HFin := Lib.hid hfin
      have HBF := Lib.hid hbf
      have HKD := Lib.hid hK
      clear hfin hbf hK hg hform h8 hk hB hBW hys e9 hSi hkK b7 b8 bO bL5 bA hform0
      go_wp2
      refine ⟨by simp, .inl ⟨_, _, rfl, run_takeDeferred HKD.out, ?_⟩⟩
      refine ⟨.tuple #[.slice A3 (kerF n F).length c3, .int .i64 0], ?_, A3, c3, rfl, HFin.out, HBF.out⟩
      simp [results, Tryz.f7, go_sem]
    case stop =>
      rintro D c pre W hD hk' hf hK
      exact hf.elim
end

/-- The error of a length beside a list of rows. -/
def errK (long : Int) (pss : Vecs) : Int := if errR pss = 0 then (if long < 1 ∨ 64 < long then 2 else if 0 < pss.length ∧ ((pss.headD []).length : Int) ≠ long then 70 else 0) else errR pss

set_option maxRecDepth 100000 in
set_option maxHeartbeats 1000000 in
theorem kernel_err {w : World} {Z : Zone} {A : Option Addr} {c : Nat} {pss : Vecs} {long E : Int} (hl : MatAt w Z A c pss) (hE : errK long pss = E) (h0 : E ≠ 0) :
    Calls Tryz.prog 7 #[.int .i64 long, .slice A pss.length c] w fun e w' => e = .returned (.tuple #[.slice none 0 0, .int .i64 E]) ∧ Below w.heap.size w w' := by
  have hal0 : Below w.heap.size w (w.alloc (.cells #[.int .i64 long] 3)) := (Below.refl _ _).alloc (Nat.le_refl _) _
  have hck := rowscheck_any (hl.below hal0)
  have bL := Boxed.new w 3 (.int .i64 long)
  have hlen := hl.len
  have Hal0 := Lib.hid hal0
  by_cases h1 : errR pss = 0
  · rw [h1] at hck
    by_cases h2 : long < 1 ∨ 64 < long
    · have eE : E = 2 := by rw [← hE]; unfold errK; rw [if_pos h1, if_pos h2]
      subst eE
      have Hck := Lib.hid hck
      clear hck hl hE h0 h1 hal0
      generalize pss.length = N at *
      by_cases h3 : long < 1
      · have t3 : decide (long < 1) = true := decide_eq_true h3
        clear h2
        go_enter Tryz.func7, Tryz.ntmps7
        go_wp2_with fail
        refine Hck.out.mono ?_
        rintro e w1 ⟨rfl, hc⟩
        have hB1 := from_ Hal0.out hc
        have bL1 := Boxed.below_ bL hc
        have x0 := bL1.cell
        clear hc bL Hck
        go_wp2
        go_ret2
        exact ⟨rfl, hB1⟩
      · have t3 : decide (long < 1) = false := decide_eq_false h3
        have t4 : decide ((64 : Int) < long) = true := decide_eq_true (h2.resolve_left h3)
        clear h2 h3
        go_enter Tryz.func7, Tryz.ntmps7
        go_wp2_with fail
        refine Hck.out.mono ?_
        rintro e w1 ⟨rfl, hc⟩
        have hB1 := from_ Hal0.out hc
        have bL1 := Boxed.below_ bL hc
        have x0 := bL1.cell
        clear hc bL Hck
        go_wp2
        go_ret2
        exact ⟨rfl, hB1⟩
    · have h5 : 0 < pss.length ∧ ((pss.headD []).length : Int) ≠ long := by
        refine Classical.byContradiction fun h => h0 ?_
        rw [← hE]
        unfold errK
        rw [if_pos h1, if_neg h2, if_neg h]
      have eE : E = 70 := by rw [← hE]; unfold errK; rw [if_pos h1, if_neg h2, if_pos h5]
      subst eE
      obtain ⟨h5, h6⟩ := h5
      rw [headD_zero h5] at h6
      have HAT : Hid (∀ W, Below w.heap.size w W → ∃ b o B2 d2, A = some ⟨b, o, none⟩ ∧ b < W.heap.size ∧ W.cell? ⟨b, o, none⟩ = some (.slice B2 (pss[0]'h5).length d2)) := fun W g => by
        obtain ⟨b, o, B2, d2, e, hb, hc, _⟩ := (hl.below g).at h5
        exact ⟨b, o, B2, d2, e, hb, by simpa using hc⟩
      have Hck := Lib.hid hck
      have t0 : decide ((0 : Int) < (pss.length : Int)) = true := decide_eq_true (by omega)
      have t1 : decide (0 < pss.length) = true := decide_eq_true h5
      have t2 : (((pss[0]'h5).length : Int) != long) = true := bne_iff_ne.2 h6
      have t3 : decide (long < 1) = false := decide_eq_false (by omega)
      have t4 : decide ((64 : Int) < long) = false := decide_eq_false (by omega)
      clear hck hl hE h0 h1 hal0
      generalize (pss[0]'h5).length = P at *
      clear h6
      generalize pss.length = N at *
      go_enter Tryz.func7, Tryz.ntmps7
      go_wp2_with fail
      refine Hck.out.mono ?_
      rintro e w1 ⟨rfl, hc⟩
      have hB1 := from_ Hal0.out hc
      have bL1 := Boxed.below_ bL hc
      have x0 := bL1.cell
      clear hc bL Hck
      obtain ⟨b, o, B2, d2, rfl, hbb, hcell⟩ := HAT.out _ hB1
      go_wp2
      go_quiet (fail)
      go_wp2
      go_ret2
      exact ⟨rfl, below_drewN hB1 _⟩
  · have eE : errR pss = E := by rw [← hE]; unfold errK; rw [if_neg h1]
    rw [eE] at hck
    have hE2 : E = 4 ∨ E = 8 ∨ E = 70 := by
      rcases errR_vals pss with h | h | h | h
      · exact absurd h h1
      all_goals (rw [eE] at h; simp [h])
    have Hck := Lib.hid hck
    clear hck hl hE h0 h1 eE hal0
    generalize pss.length = N at *
    rcases hE2 with rfl | rfl | rfl
    all_goals
      go_enter Tryz.func7, Tryz.ntmps7
      go_wp2_with fail
      refine Hck.out.mono ?_
      rintro e w1 ⟨rfl, hc⟩
      have hB1 := from_ Hal0.out hc
      have bL1 := Boxed.below_ bL hc
      have x0 := bL1.cell
      clear hc bL Hck
      go_wp2
      go_ret2
      exact ⟨rfl, hB1⟩

end Go.Proofs.YtajmijnoikkffaaGreat
