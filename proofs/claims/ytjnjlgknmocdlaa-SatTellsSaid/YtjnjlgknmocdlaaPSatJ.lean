/-
  Signs and masks of rows: the document's own answer, at any words. No conditions but bounds on lengths.
  Masks of rows: the document's Masks, at any words. No conditions but bounds on lengths.
-/
import Derived.Test.YtjnjlgknmocdlaaPSatL
import Derived.Test.YtjnjlgknmocdlaaPVecP
import Derived.Test.YtjnjlgknmocdlaaPMatD
namespace Go.Proofs.Ytjnjlgknmocdlaa
open Go.RowKit
set_option linter.unusedVariables false
set_option linter.unusedSimpArgs false

theorem wrap_nat64 (a : Nat) (ha : a < 18446744073709551616) : IntKind.u64.wrap (a : Int) = (a : Int) := by rw [IntKind.wrap_u64]; omega

/-- The document's sign of the product of two rows that may be. -/
theorem r7sign_any {w : World} {Z Y : Zone} {A B : Option Addr} {c d K : Nat} {ps qs : List (Bool × List Nat)} (ha : VecAt w Z A c ps) (hb : VecAt w Y B d qs) (h1 : okV ps = true) (h2 : okV qs = true) (hl : ps.length = qs.length) (hK1 : ∀ p ∈ ps, p.2.length ≤ K) (hK2 : ∀ p ∈ qs, p.2.length ≤ K) (hK : K ≤ 4000) :
    ∃ (s : Bool) (m : List Nat), Nm (dotZ (zsV ps) (zsV qs)) s m ∧
      Calls Try.prog 75 #[.slice A ps.length c, .slice B qs.length d] w fun e w' => ∃ Av cv, e = .returned (.agg #[.bool s, .slice Av m.length cv]) ∧ U64s w' (new w.heap.size) Av cv m ∧ Below w.heap.size w w' :=
  ⟨_, _, Nm.mk' _, r7product_n ha hb (NmV.ok h1 ha.small) (NmV.ok h2 hb.small) hl (okV_len h1) hK1 hK2 hK (Nm.mk' _)⟩

set_option maxRecDepth 100000 in
set_option maxHeartbeats 4000000 in
theorem refsigns_any {w : World} {Z Y : Zone} {A B : Option Addr} {c d K : Nat} {ps : List (Bool × List Nat)} {pss : Vecs} (ha : VecAt w Z A c ps) (hm : MatAt w Y B d pss)
    (hK1 : ∀ p ∈ ps, p.2.length ≤ K) (hK2 : pss.length ≤ 1024 → ∀ qs ∈ pss, ∀ p ∈ qs, p.2.length ≤ K) (hK : K ≤ 4000) :
    Calls Try.prog 28 #[.slice A ps.length c, .slice B pss.length d] w fun e w' => ∃ u, e = .returned (.tuple #[u, .int .i64 (errG ps pss)]) ∧ IsInts w' old u (signsL ps pss) ∧ Below w.heap.size w w' := by
  have hlen := hm.len
  have hlen2 := ha.len
  have hck := r18check_any hm
  obtain ⟨i0, hi, hz0, hz1, hz2⟩ := info_parts infoInt
  by_cases h0 : errR pss = 0
  · have hb := errR_zero h0
    rw [h0] at hck
    have Hck := Lib.hid hck
    have hcv := fun (w1 : World) (h : Below w.heap.size w w1) => r7may_any (ha.below h)
    by_cases h1 : okV ps = true
    · rw [h1] at hcv
      have Hcv := Lib.hid hcv
      clear hck hcv
      by_cases h2 : ∀ h3 : 0 < pss.length, pss[0].length = ps.length
      · have hE := errG_good h0 h1 h2
        have hz := errG_zero hE
        have hsl := signsL_yes hE
        rw [hE, hsl]
        have Hm : Hid (∀ w1, Below w.heap.size w w1 → MatAt w1 Y B d pss) := fun w1 h => hm.below h
        have Ha : Hid (∀ w1, Below w.heap.size w w1 → VecAt w1 Z A c ps) := fun w1 h => ha.below h
        have hl64 := okV_len h1
        have Hz := Lib.hid hz
        have hp1024 := hb.1
        have hKK := hK2 hb.1
        have Hdot : Hid (∀ (w1 : World) (q : List (Bool × List Nat)) (B2 : Option Addr) (d2 : Nat), Below w.heap.size w w1 → VecAt w1 Y B2 d2 q → q ∈ pss → ∃ (s : Bool) (m : List Nat), Nm (dotZ (zsV ps) (zsV q)) s m ∧
            Calls Try.prog 75 #[.slice A ps.length c, .slice B2 q.length d2] w1 fun e w' => ∃ Av cv, e = .returned (.agg #[.bool s, .slice Av m.length cv]) ∧ U64s w' (new w1.heap.size) Av cv m ∧ Below w1.heap.size w1 w') := fun w1 q B2 d2 hw hq hmem =>
          r7sign_any (Ha.out w1 hw) hq h1 (hz.2.2 q hmem).1 (hz.2.2 q hmem).2.symm hK1 (hKK q hmem) hK
        clear hE hsl hK1 hK2 hKK hb hz h0 h1
        have hp0 : pss.length = 0 ∨ 0 < pss.length := by omega
        have Htest : Hid (pss.length = 0 ∨ ∃ (b o : Nat) (B2 : Option Addr) (d2 : Nat), 0 < pss.length ∧ B = some ⟨b, o, none⟩ ∧ ∀ w1, Below w.heap.size w w1 → w1.cell? ⟨b, o, none⟩ = some (.slice B2 ps.length d2)) := by
          rcases hp0 with h | h
          · exact .inl h
          · obtain ⟨b, o, B2, d2, e, hb, c0, hv⟩ := hm.at h
            refine .inr ⟨b, o, B2, d2, h, e, fun w1 hw => ?_⟩
            rw [Nat.add_zero, h2 h] at c0
            exact keepC hw c0
        clear h2 hp0 ha hm
        go_enter Try.func28, Try.ntmps28
        go_wp2_with fail
        refine Hck.out.mono ?_
        rintro e w1 ⟨rfl, hb1⟩
        go_wp2_with fail
        refine (Hcv.out _ hb1).mono ?_
        rintro e w2 ⟨rfl, hb2⟩
        have hB2 := from_ hb1 hb2
        have hns : ((ps.length : Int) != (ps.length : Int)) = false := bne_self_eq_false _
        rcases Htest.out with h3 | ⟨b, o, B2, d2, h3, rfl, hc⟩
        · have e0 : pss = [] := List.length_eq_zero_iff.1 h3
          subst e0
          clear Htest h3 Hck Hcv hb1 hb2
          go_wp2
          go_loopw [7, 8] (fun s4 s35 wr => s4 = .slice none 0 0 ∧ s35 = .int .i64 0 ∧ Below w.heap.size w wr) (fun _ _ _ => 0)
          case atStart => exact ⟨rfl, rfl, hB2⟩
          case round =>
            clear hB2
            obtain ⟨rfl, rfl, hbel⟩ := hrel
            go_wp2
            go_ret2
            exact ⟨_, rfl, isInts_nil _, hbel⟩
        · have c0 := hc _ hB2
          clear Htest Hck Hcv hb1 hb2 hc
          go_wp2
          go_loopw [7, 8] (fun s4 s35 wr => ∃ k : Nat, k ≤ pss.length ∧ s35 = .int .i64 (k : Int) ∧ wr.ownsRow w.heap.size 3 1 s4 k ((signTo ps pss k).map fun x : Int => Value.int .i64 x) ∧ Below w.heap.size w wr) (fun _ s35 _ => pss.length - (intOf s35).toNat)
          case atStart => exact ⟨0, Nat.zero_le _, rfl, World.ownsRow_nil _ _ _ _, hB2⟩
          case round =>
            clear hB2 c0
            obtain ⟨k, hk, rfl, hown, hbel⟩ := hrel
            by_cases hlt : k < pss.length
            · obtain ⟨_, _, B3, d3, e, hb, c0, hv⟩ := (Hm.out _ hbel).at hlt
              cases e
              obtain ⟨s, m, nz, hdot⟩ := Hdot.out _ _ _ _ hbel hv (List.getElem_mem hlt)
              have hst : signTo ps pss (k + 1) = signTo ps pss k ++ [sgn (dotZ (zsV ps) (zsV pss[k]))] := signTo_succ hlt
              have hsb := sgn_bounds (dotZ (zsV ps) (zsV pss[k]))
              generalize dotZ (zsV ps) (zsV pss[k]) = z at *
              obtain ⟨g, hg⟩ : ∃ g, sgn z = g := ⟨_, rfl⟩
              rw [hg] at hst hsb
              have Hst := Lib.hid hst
              have Hdt := Lib.hid hdot
              have Nz := Lib.hid nz
              have Hg := Lib.hid hg
              have hq1 := hv.len
              have hk1 : k ≤ 1024 := by omega
              clear hst hdot nz hg hv
              generalize pss[k] = q at *
              generalize q.length = ql at *
              go_wp2_with fail
              refine Hdt.out.mono ?_
              rintro e w3 ⟨Av, cv, rfl, hu, hb3⟩
              have hs := r5signed_n Nz.out Hg.out hu
              have Hs := Lib.hid hs
              have hB3 := from_ hbel hb3
              have hown3 := own_below hown hb3
              clear hs hown hb3 hbel hu c0
              go_wp2_with fail
              refine Hs.out.mono ?_
              rintro e w4 ⟨rfl, hb4⟩
              have hown4 := own_below hown3 hb4
              have hB4 := from_ hB3 hb4
              clear hown3 hB3 hb4 Hs
              go_wp2_with (at_builtin; go_loud (refine wpList_app1 _ rfl _ _ 44 rfl w.heap.size 3 i0 (.int .i64 0) Try.underlying44 hi hz0 hz1 hz2 rfl _ _ _ rfl (hown4.alloc _) w4.heap.size (.int .i64 g) rfl (cell_newest rfl rfl) rfl (by omega) (by have := hB4.size; simp; omega) ?_); intro v' w5 hown' hgrow; go_loud (have hb5 : Below w.heap.size w w5 := (hB4.alloc hB4.size _).grown hgrow (by have := hB4.size; simp; omega) (own_nil_of hown4)))
              go_roundw
              case rel =>
                refine ⟨k + 1, by omega, by go_num, ?_, hb5⟩
                rw [Hst.out]
                simpa using hown'
              case measure => simp [intOf]; omega
            · obtain rfl : k = pss.length := by omega
              have hfin := ints_own hown signTo_small
              have HF := Lib.hid hfin
              clear hfin hown
              go_wp2
              go_ret2
              exact ⟨_, rfl, HF.out, hbel⟩
      · obtain ⟨h3, h4⟩ : ∃ h3 : 0 < pss.length, pss[0].length ≠ ps.length := Classical.byContradiction fun hn => h2 fun h3 => Classical.byContradiction fun h5 => hn ⟨h3, h5⟩
        have hE := errG_dim h0 h1 h3 h4
        rw [hE, signsL_no (by rw [hE]; decide)]
        obtain ⟨b, o, B2, d2, rfl, hb, c0, hv⟩ := hm.at h3
        have hvl := hv.len
        rw [Nat.add_zero] at c0
        have hns : ((pss[0].length : Int) != (ps.length : Int)) = true := by simp; omega
        clear hE h0 h1 h2 h4 hv ha hm
        generalize pss[0].length = q at *
        generalize ps.length = L at *
        generalize pss.length = M at *
        go_enter Try.func28, Try.ntmps28
        go_wp2_with fail
        refine Hck.out.mono ?_
        rintro e w1 ⟨rfl, hb1⟩
        go_wp2_with fail
        refine (Hcv.out _ hb1).mono ?_
        rintro e w2 ⟨rfl, hb2⟩
        have hB2 := from_ hb1 hb2
        replace c0 := keepC hB2 c0
        go_wp2
        go_ret2
        exact ⟨_, rfl, isInts_nil _, hB2⟩
    · have h1' : okV ps = false := by cases h : okV ps <;> simp_all
      have hE := errG_bad h0 h1'
      rw [hE, signsL_no (by rw [hE]; decide)]
      rw [h1'] at hcv
      have Hcv := Lib.hid hcv
      clear hck hcv hE h0 h1 h1' ha hm
      generalize ps.length = L at *
      generalize pss.length = M at *
      go_enter Try.func28, Try.ntmps28
      go_wp2_with fail
      refine Hck.out.mono ?_
      rintro e w1 ⟨rfl, hb1⟩
      go_wp2_with fail
      refine (Hcv.out _ hb1).mono ?_
      rintro e w2 ⟨rfl, hb2⟩
      have hB2 := from_ hb1 hb2
      go_wp2
      go_ret2
      exact ⟨_, rfl, isInts_nil _, hB2⟩
  · have hE := errG_check (ps := ps) h0
    rw [signsL_no (by rw [hE]; exact h0), hE]
    have t0 : (errR pss != 0) = true := by simp [h0]
    have Hck := Lib.hid hck
    clear hck hE h0 ha hm
    generalize ps.length = L at *
    generalize pss.length = M at *
    generalize errR pss = E at *
    go_enter Try.func28, Try.ntmps28
    go_wp2_with fail
    refine Hck.out.mono ?_
    rintro e w1 ⟨rfl, hb1⟩
    go_wp2
    go_ret2
    exact ⟨_, rfl, isInts_nil _, hb1⟩

set_option maxRecDepth 100000 in
set_option maxHeartbeats 4000000 in
theorem refmask_any {w : World} {Z Y : Zone} {A B : Option Addr} {c d K : Nat} {ps : List (Bool × List Nat)} {pss : Vecs} (ha : VecAt w Z A c ps) (hm : MatAt w Y B d pss) (hE : errG ps pss = 0) (h3 : pss.length ≤ 64)
    (hK1 : ∀ p ∈ ps, p.2.length ≤ K) (hK2 : ∀ qs ∈ pss, ∀ p ∈ qs, p.2.length ≤ K) (hK : K ≤ 4000) :
    Calls Try.prog 76 #[.slice A ps.length c, .slice B pss.length d] w fun e w' => e = .returned (.int .u64 (maskD pss ps : Int)) ∧ Below w.heap.size w w' := by
  have hz := errG_zero hE
  have Hm : Hid (∀ w1, Below w.heap.size w w1 → MatAt w1 Y B d pss) := fun w1 h => hm.below h
  have Ha : Hid (∀ w1, Below w.heap.size w w1 → VecAt w1 Z A c ps) := fun w1 h => ha.below h
  have Hdot : Hid (∀ (w1 : World) (q : List (Bool × List Nat)) (B2 : Option Addr) (d2 : Nat), Below w.heap.size w w1 → VecAt w1 Y B2 d2 q → q ∈ pss → ∃ (s : Bool) (m : List Nat), Nm (dotZ (zsV ps) (zsV q)) s m ∧
      Calls Try.prog 75 #[.slice A ps.length c, .slice B2 q.length d2] w1 fun e w' => ∃ Av cv, e = .returned (.agg #[.bool s, .slice Av m.length cv]) ∧ U64s w' (new w1.heap.size) Av cv m ∧ Below w1.heap.size w1 w') := fun w1 q B2 d2 hw hq hmem =>
    r7sign_any (Ha.out w1 hw) hq hz.2.1 (hz.2.2 q hmem).1 (hz.2.2 q hmem).2.symm hK1 (hK2 q hmem) hK
  have Hat : Hid (∀ k (hk : k < pss.length), zeroD pss ps k = decide (sgn (dotZ (zsV ps) (zsV pss[k])) = 0)) := fun k hk => by
    have e : pss.getD k [] = pss[k] := by simp [List.getD, hk]
    unfold zeroD sgnD
    rw [e]
  have hlp := ha.len
  clear hz hE hK1 hK2 ha hm
  unfold maskD
  go_enter Try.func76, Try.ntmps76
  go_wp2
  go_loopw [5, 6] (fun s5 s6 wr => ∃ k : Nat, k ≤ pss.length ∧ s6 = .int .i64 (k : Int) ∧ s5 = .int .u64 (maskN (zeroD pss ps) k : Int) ∧ Below w.heap.size w wr) (fun _ s6 _ => pss.length - (intOf s6).toNat)
  case atStart => exact ⟨0, Nat.zero_le _, rfl, rfl, Below.refl _ _⟩
  case round =>
    obtain ⟨k, hk, rfl, rfl, hbel⟩ := hrel
    by_cases hlt : k < pss.length
    · obtain ⟨b, o, B3, d3, rfl, hb, c0, hv⟩ := (Hm.out _ hbel).at hlt
      obtain ⟨s, m, nz, hdot⟩ := Hdot.out _ _ _ _ hbel hv (List.getElem_mem hlt)
      have hat := Hat.out k hlt
      generalize dotZ (zsV ps) (zsV pss[k]) = z at *
      obtain ⟨g, hg⟩ : ∃ g, sgn z = g := ⟨_, rfl⟩
      rw [hg] at hat
      have Hdt := Lib.hid hdot
      have Nz := Lib.hid nz
      have Hg := Lib.hid hg
      have Hat2 := Lib.hid hat
      have hq1 := hv.len
      have hk64 : k < 64 := by omega
      have hp64 := pow_lt64 hk64
      have hml := maskN_lt (zeroD pss ps) k
      have hml2 := maskN_lt (zeroD pss ps) (k + 1)
      have hp65 := pow_le64 (show k + 1 ≤ 64 by omega)
      have hw := wrap_pow hk64
      clear hdot nz hg hv hat
      generalize pss[k] = q at *
      generalize q.length = ql at *
      have hcase : g = 0 ∨ g ≠ 0 := by omega
      have Hc := Lib.hid hcase
      clear hcase
      rcases Hc.out with hg | hg
      · have tg : ((g : Int) == 0) = true := by simp [hg]
        have hy := maskN_yes (z := zeroD pss ps) (k := k) (Hat2.out.trans (decide_eq_true hg))
        rw [hy] at hml2
        have hs2 : ((maskN (zeroD pss ps) k : Nat) : Int) + ((2 ^ k : Nat) : Int) = ((maskN (zeroD pss ps) (k + 1) : Nat) : Int) := by rw [hy]; rfl
        have hlt2 : maskN (zeroD pss ps) k + 2 ^ k < 18446744073709551616 := by omega
        have hw2 := wrap_nat64 (maskN (zeroD pss ps) (k + 1)) (by rw [hy]; exact hlt2)
        clear hg hy hml hml2 hp65 hlt2
        generalize 2 ^ k = p at *
        generalize maskN (zeroD pss ps) k = x at *
        go_wp2_with fail
        refine Hdt.out.mono ?_
        rintro e w3 ⟨Av, cv, rfl, hu, hb3⟩
        have hs := r5signed_n Nz.out Hg.out hu
        have Hs := Lib.hid hs
        have hB3 := from_ hbel hb3
        clear hs hb3 hbel hu c0
        go_wp2_with fail
        refine Hs.out.mono ?_
        rintro e w4 ⟨rfl, hb4⟩
        have hB4 := from_ hB3 hb4
        go_wp2
        go_roundw
        case rel => exact ⟨k + 1, by omega, by go_num, by first | rfl | trivial, hB4⟩
        case measure => simp [intOf]; omega
      · have tg : ((g : Int) == 0) = false := beq_eq_false_iff_ne.2 hg
        have hy := maskN_no (z := zeroD pss ps) (k := k) (Hat2.out.trans (decide_eq_false hg))
        have Hy := Lib.hid hy
        clear hg hy hml hml2 hp65 hw hp64
        generalize maskN (zeroD pss ps) k = x at *
        go_wp2_with fail
        refine Hdt.out.mono ?_
        rintro e w3 ⟨Av, cv, rfl, hu, hb3⟩
        have hs := r5signed_n Nz.out Hg.out hu
        have Hs := Lib.hid hs
        have hB3 := from_ hbel hb3
        clear hs hb3 hbel hu c0
        go_wp2_with fail
        refine Hs.out.mono ?_
        rintro e w4 ⟨rfl, hb4⟩
        have hB4 := from_ hB3 hb4
        go_wp2
        go_roundw
        case rel => exact ⟨k + 1, by omega, by go_num, by rw [Hy.out], hB4⟩
        case measure => simp [intOf]; omega
    · obtain rfl : k = pss.length := by omega
      go_wp2
      go_ret
      exact ⟨rfl, hbel⟩

end Go.Proofs.Ytjnjlgknmocdlaa

namespace Go.Proofs.Ytjnjlgknmocdlaa
open Go.RowKit
set_option linter.unusedVariables false
set_option linter.unusedSimpArgs false

set_option maxRecDepth 100000 in
set_option maxHeartbeats 4000000 in
theorem refmasks_any {w : World} {Z Y : Zone} {A B : Option Addr} {c d K : Nat} {pss qss : Vecs} (ha : MatAt w Z A c pss) (hm : MatAt w Y B d qss)
    (hK1 : pss.length ≤ 1024 → ∀ qs ∈ pss, ∀ p ∈ qs, p.2.length ≤ K) (hK2 : qss.length ≤ 1024 → ∀ qs ∈ qss, ∀ p ∈ qs, p.2.length ≤ K) (hK : K ≤ 4000) :
    Calls Try.prog 30 #[.slice A pss.length c, .slice B qss.length d] w fun e w' => ∃ u, e = .returned (.tuple #[u, .int .i64 (errMk pss qss)]) ∧ IsU w' old u (masksL pss qss) ∧ Below w.heap.size w w' := by
  have hlen := ha.len
  have hlen2 := hm.len
  have hc1 := r18check_any ha
  have hc2 := fun (w1 : World) (h : Below w.heap.size w w1) => r18check_any (hm.below h)
  obtain ⟨i0, hi, hz0, hz1, hz2⟩ := info_parts infoW
  by_cases h1 : errR pss = 0
  · rw [h1] at hc1
    have Hc1 := Lib.hid hc1
    by_cases h2 : errR qss = 0
    · rw [h2] at hc2
      have Hc2 := Lib.hid hc2
      clear hc1 hc2
      by_cases h3 : pss.length ≤ 64
      · have m3 : decide ((64 : Int) < (pss.length : Int)) = false := decide_eq_false (by omega)
        by_cases h4 : ∀ (p0 : 0 < pss.length) (q0 : 0 < qss.length), pss[0].length = qss[0].length
        · have hE := errMk_good h1 h2 h3 h4
          have hz := (errMk_zero hE).2.2.2
          rw [hE, masksL_yes hE]
          have hq1024 := (errR_zero h2).1
          have hKq := hK2 (errR_zero h2).1
          have hKp := hK1 (errR_zero h1).1
          have Hm : Hid (∀ w1, Below w.heap.size w w1 → MatAt w1 Y B d qss) := fun w1 h => hm.below h
          have Hsg : Hid (∀ (w1 : World) (q : List (Bool × List Nat)) (B2 : Option Addr) (d2 : Nat), Below w.heap.size w w1 → VecAt w1 Y B2 d2 q → q ∈ qss →
              Calls Try.prog 76 #[.slice B2 q.length d2, .slice A pss.length c] w1 fun e w' => e = .returned (.int .u64 (maskD pss q : Int)) ∧ Below w1.heap.size w1 w') := fun w1 q B2 d2 hw hq hmem =>
            refmask_any hq (ha.below hw) (hz q hmem) h3 (hKq q hmem) hKp hK
          have Hsm : Hid (∀ k, Small (maskTo pss qss k)) := fun k => maskTo_small h3
          have Htest : Hid (∀ w1, Below w.heap.size w w1 → (pss.length = 0 ∨ (0 < pss.length ∧ qss.length = 0) ∨ ∃ (b o : Nat) (B2 : Option Addr) (d2 : Nat) (b' o' : Nat) (B3 : Option Addr) (d3 L : Nat), 0 < pss.length ∧ 0 < qss.length ∧ A = some ⟨b, o, none⟩ ∧ B = some ⟨b', o', none⟩ ∧ w1.cell? ⟨b, o, none⟩ = some (.slice B2 L d2) ∧ w1.cell? ⟨b', o', none⟩ = some (.slice B3 L d3))) := fun w1 hw => by
            rcases Nat.eq_zero_or_pos pss.length with h | h
            · exact .inl h
            · rcases Nat.eq_zero_or_pos qss.length with h' | h'
              · exact .inr (.inl ⟨h, h'⟩)
              · obtain ⟨b, o, B2, d2, e, hb, c0, hv⟩ := ha.at h
                obtain ⟨b', o', B3, d3, e', hb', c0', hv'⟩ := hm.at h'
                rw [Nat.add_zero] at c0 c0'
                rw [h4 h h'] at c0
                exact .inr (.inr ⟨b, o, B2, d2, b', o', B3, d3, _, h, h', e, e', keepC hw c0, keepC hw c0'⟩)
          have Hstep : Hid (∀ k, k < qss.length → maskTo pss qss (k + 1) = maskTo pss qss k ++ [maskD pss (qss.getD k [])]) := fun k hk => by rw [maskTo_succ hk]; simp [List.getD, hk]
          clear hE hz hKq hKp hK1 hK2 h1 h2 h4 ha hm
          generalize hn : pss.length = n at *
          generalize hm' : qss.length = m at *
          have Hn := Lib.hid hn
          have Hm' := Lib.hid hm'
          clear hn hm'
          go_enter Try.func30, Try.ntmps30
          go_wp2_with fail
          refine Hc1.out.mono ?_
          rintro e w1 ⟨rfl, hb1⟩
          go_wp2_with fail
          refine (Hc2.out _ hb1).mono ?_
          rintro e w2 ⟨rfl, hb2⟩
          have hbel := from_ hb1 hb2
          rcases Htest.out _ hbel with h5 | ⟨h5, h6⟩ | ⟨b, o, B2, d2, b', o', B3, d3, L, h5, h6, rfl, rfl, x0, x1⟩
          · have t0 : decide (0 < n) = false := decide_eq_false (by omega)
            clear h5
            go_wp2
            go_quiet (fail)
            go_wp2
            go_loopw [7, 8] (fun s4 s52 wr => ∃ k : Nat, k ≤ m ∧ s52 = .int .i64 (k : Int) ∧ wr.ownsRow w.heap.size 34 1 s4 k ((maskTo pss qss k).map fun x : Nat => Value.int .u64 (x : Int)) ∧ Below w.heap.size w wr) (fun _ s52 _ => m - (intOf s52).toNat)
            case atStart => exact ⟨0, Nat.zero_le _, rfl, World.ownsRow_nil _ _ _ _, below_drewN' hbel _⟩
            case round =>
              clear hbel hb1 hb2
              obtain ⟨k, hk, rfl, hown, hbel⟩ := hrel
              by_cases hlt : k < m
              · have hltq : k < qss.length := by rw [Hm'.out]; exact hlt
                obtain ⟨b4, o4, B4, d4, hBe, hb4, c4, hv4⟩ := (Hm.out _ hbel).at hltq
                have hsg := Hsg.out _ _ _ _ hbel hv4 (List.getElem_mem hltq)
                have hv4l := hv4.len
                have hst := Hstep.out k hlt
                have e : qss.getD k [] = qss[k] := by simp [List.getD, hltq]
                rw [e] at hst
                have Hst := Lib.hid hst
                have Hsg2 := Lib.hid hsg
                have hk1 : k ≤ 1024 := by omega
                have hx := maskD_lt (pss := pss) qss[k] (by rw [Hn.out]; exact h3)
                clear hst hsg hv4 e
                try subst hBe
                try (cases hBe)
                generalize qss[k] = q at *
                generalize maskD pss q = x at *
                generalize q.length = ql at *
                go_wp2_with fail
                refine Hsg2.out.mono ?_
                rintro e w3 ⟨rfl, hb3⟩
                have hown3 := own_below hown hb3
                have hB3 := from_ hbel hb3
                clear hown hbel hb3 c4 Hsg2
                go_wp2_with (at_builtin; go_loud (refine wpList_app1 _ rfl _ _ 22 rfl w.heap.size 34 i0 (.int .u64 0) Try.underlying22 hi hz0 hz1 hz2 rfl _ _ _ rfl (hown3.alloc _) w3.heap.size (.int .u64 (x : Int)) rfl (cell_newest rfl rfl) rfl (by omega) (by have := hB3.size; simp; omega) ?_); intro v' w5 hown' hgrow; go_loud (have hb5 : Below w.heap.size w w5 := (hB3.alloc hB3.size _).grown hgrow (by have := hB3.size; simp; omega) (own_nil_of hown3)))
                go_roundw
                case rel =>
                  refine ⟨k + 1, by omega, by go_num, ?_, hb5⟩
                  rw [Hst.out]
                  simpa using hown'
                case measure => simp [intOf]; omega
              · obtain rfl : m = k := by omega
                have hfin := isU_own hown (Hsm.out _)
                have HF := Lib.hid hfin
                clear hfin hown
                go_wp2
                go_ret2
                exact ⟨_, rfl, HF.out, hbel⟩
          · have t0 : decide (0 < n) = true := decide_eq_true h5
            have t1 : decide (0 < m) = false := decide_eq_false (by omega)
            clear h6
            go_wp2
            go_quiet (fail)
            go_wp2
            go_loopw [7, 8] (fun s4 s52 wr => ∃ k : Nat, k ≤ m ∧ s52 = .int .i64 (k : Int) ∧ wr.ownsRow w.heap.size 34 1 s4 k ((maskTo pss qss k).map fun x : Nat => Value.int .u64 (x : Int)) ∧ Below w.heap.size w wr) (fun _ s52 _ => m - (intOf s52).toNat)
            case atStart => exact ⟨0, Nat.zero_le _, rfl, World.ownsRow_nil _ _ _ _, below_drewN' hbel _⟩
            case round =>
              clear hbel hb1 hb2
              obtain ⟨k, hk, rfl, hown, hbel⟩ := hrel
              by_cases hlt : k < m
              · have hltq : k < qss.length := by rw [Hm'.out]; exact hlt
                obtain ⟨b4, o4, B4, d4, hBe, hb4, c4, hv4⟩ := (Hm.out _ hbel).at hltq
                have hsg := Hsg.out _ _ _ _ hbel hv4 (List.getElem_mem hltq)
                have hv4l := hv4.len
                have hst := Hstep.out k hlt
                have e : qss.getD k [] = qss[k] := by simp [List.getD, hltq]
                rw [e] at hst
                have Hst := Lib.hid hst
                have Hsg2 := Lib.hid hsg
                have hk1 : k ≤ 1024 := by omega
                have hx := maskD_lt (pss := pss) qss[k] (by rw [Hn.out]; exact h3)
                clear hst hsg hv4 e
                try subst hBe
                try (cases hBe)
                generalize qss[k] = q at *
                generalize maskD pss q = x at *
                generalize q.length = ql at *
                go_wp2_with fail
                refine Hsg2.out.mono ?_
                rintro e w3 ⟨rfl, hb3⟩
                have hown3 := own_below hown hb3
                have hB3 := from_ hbel hb3
                clear hown hbel hb3 c4 Hsg2
                go_wp2_with (at_builtin; go_loud (refine wpList_app1 _ rfl _ _ 22 rfl w.heap.size 34 i0 (.int .u64 0) Try.underlying22 hi hz0 hz1 hz2 rfl _ _ _ rfl (hown3.alloc _) w3.heap.size (.int .u64 (x : Int)) rfl (cell_newest rfl rfl) rfl (by omega) (by have := hB3.size; simp; omega) ?_); intro v' w5 hown' hgrow; go_loud (have hb5 : Below w.heap.size w w5 := (hB3.alloc hB3.size _).grown hgrow (by have := hB3.size; simp; omega) (own_nil_of hown3)))
                go_roundw
                case rel =>
                  refine ⟨k + 1, by omega, by go_num, ?_, hb5⟩
                  rw [Hst.out]
                  simpa using hown'
                case measure => simp [intOf]; omega
              · obtain rfl : m = k := by omega
                have hfin := isU_own hown (Hsm.out _)
                have HF := Lib.hid hfin
                clear hfin hown
                go_wp2
                go_ret2
                exact ⟨_, rfl, HF.out, hbel⟩
          · have t0 : decide (0 < n) = true := decide_eq_true h5
            have t1 : decide (0 < m) = true := decide_eq_true h6
            have t2 : ((L : Int) != (L : Int)) = false := bne_self_eq_false _
            go_wp2
            go_quiet (fail)
            go_wp2
            go_loopw [7, 8] (fun s4 s52 wr => ∃ k : Nat, k ≤ m ∧ s52 = .int .i64 (k : Int) ∧ wr.ownsRow w.heap.size 34 1 s4 k ((maskTo pss qss k).map fun x : Nat => Value.int .u64 (x : Int)) ∧ Below w.heap.size w wr) (fun _ s52 _ => m - (intOf s52).toNat)
            case atStart => exact ⟨0, Nat.zero_le _, rfl, World.ownsRow_nil _ _ _ _, below_drewN' hbel _⟩
            case round =>
              clear hbel hb1 hb2
              obtain ⟨k, hk, rfl, hown, hbel⟩ := hrel
              by_cases hlt : k < m
              · have hltq : k < qss.length := by rw [Hm'.out]; exact hlt
                obtain ⟨b4, o4, B4, d4, hBe, hb4, c4, hv4⟩ := (Hm.out _ hbel).at hltq
                have hsg := Hsg.out _ _ _ _ hbel hv4 (List.getElem_mem hltq)
                have hv4l := hv4.len
                have hst := Hstep.out k hlt
                have e : qss.getD k [] = qss[k] := by simp [List.getD, hltq]
                rw [e] at hst
                have Hst := Lib.hid hst
                have Hsg2 := Lib.hid hsg
                have hk1 : k ≤ 1024 := by omega
                have hx := maskD_lt (pss := pss) qss[k] (by rw [Hn.out]; exact h3)
                clear hst hsg hv4 e
                try subst hBe
                try (cases hBe)
                generalize qss[k] = q at *
                generalize maskD pss q = x at *
                generalize q.length = ql at *
                go_wp2_with fail
                refine Hsg2.out.mono ?_
                rintro e w3 ⟨rfl, hb3⟩
                have hown3 := own_below hown hb3
                have hB3 := from_ hbel hb3
                clear hown hbel hb3 c4 Hsg2
                go_wp2_with (at_builtin; go_loud (refine wpList_app1 _ rfl _ _ 22 rfl w.heap.size 34 i0 (.int .u64 0) Try.underlying22 hi hz0 hz1 hz2 rfl _ _ _ rfl (hown3.alloc _) w3.heap.size (.int .u64 (x : Int)) rfl (cell_newest rfl rfl) rfl (by omega) (by have := hB3.size; simp; omega) ?_); intro v' w5 hown' hgrow; go_loud (have hb5 : Below w.heap.size w w5 := (hB3.alloc hB3.size _).grown hgrow (by have := hB3.size; simp; omega) (own_nil_of hown3)))
                go_roundw
                case rel =>
                  refine ⟨k + 1, by omega, by go_num, ?_, hb5⟩
                  rw [Hst.out]
                  simpa using hown'
                case measure => simp [intOf]; omega
              · obtain rfl : m = k := by omega
                have hfin := isU_own hown (Hsm.out _)
                have HF := Lib.hid hfin
                clear hfin hown
                go_wp2
                go_ret2
                exact ⟨_, rfl, HF.out, hbel⟩
        · obtain ⟨p0, q0, h5⟩ : ∃ (p0 : 0 < pss.length) (q0 : 0 < qss.length), pss[0].length ≠ qss[0].length := Classical.byContradiction fun hn => h4 fun p0 q0 => Classical.byContradiction fun h5 => hn ⟨p0, q0, h5⟩
          have hE := errMk_dim h1 h2 h3 p0 q0 h5
          rw [hE, masksL_no (by rw [hE]; decide)]
          have Htest : Hid (∀ w1, Below w.heap.size w w1 → ∃ (b o : Nat) (B2 : Option Addr) (d2 : Nat) (b' o' : Nat) (B3 : Option Addr) (d3 L M : Nat), L ≠ M ∧ L ≤ 9223372036854775807 ∧ M ≤ 9223372036854775807 ∧ A = some ⟨b, o, none⟩ ∧ B = some ⟨b', o', none⟩ ∧ w1.cell? ⟨b, o, none⟩ = some (.slice B2 L d2) ∧ w1.cell? ⟨b', o', none⟩ = some (.slice B3 M d3)) := fun w1 hw => by
            obtain ⟨b, o, B2, d2, e, hb, c0, hv⟩ := ha.at p0
            obtain ⟨b', o', B3, d3, e', hb', c0', hv'⟩ := hm.at q0
            rw [Nat.add_zero] at c0 c0'
            exact ⟨b, o, B2, d2, b', o', B3, d3, _, _, h5, hv.len, hv'.len, e, e', keepC hw c0, keepC hw c0'⟩
          have t0 : decide (0 < pss.length) = true := decide_eq_true p0
          have t1 : decide (0 < qss.length) = true := decide_eq_true q0
          clear hE h1 h2 h4 h5 ha hm hK1 hK2
          generalize hn : pss.length = n at *
          generalize hm' : qss.length = m at *
          have Hn := Lib.hid hn
          have Hm' := Lib.hid hm'
          clear hn hm'
          go_enter Try.func30, Try.ntmps30
          go_wp2_with fail
          refine Hc1.out.mono ?_
          rintro e w1 ⟨rfl, hb1⟩
          go_wp2_with fail
          refine (Hc2.out _ hb1).mono ?_
          rintro e w2 ⟨rfl, hb2⟩
          have hbel := from_ hb1 hb2
          obtain ⟨b, o, B2, d2, b', o', B3, d3, L, M, h5, hL, hM, rfl, rfl, x0, x1⟩ := Htest.out _ hbel
          have t2 : ((L : Int) != (M : Int)) = true := by simp; omega
          clear h5 Htest hb1 hb2
          go_wp2
          go_quiet (fail)
          go_wp2
          go_ret2
          exact ⟨_, rfl, IsU.nil _ _, below_drewN' hbel _⟩
      · have hE := errMk_many h1 h2 h3
        rw [hE, masksL_no (by rw [hE]; decide)]
        have m3 : decide ((64 : Int) < (pss.length : Int)) = true := decide_eq_true (by omega)
        clear hE h1 h2 h3 ha hm hK1 hK2
        generalize hn : pss.length = n at *
        generalize hm' : qss.length = m at *
        have Hn := Lib.hid hn
        have Hm' := Lib.hid hm'
        clear hn hm'
        go_enter Try.func30, Try.ntmps30
        go_wp2_with fail
        refine Hc1.out.mono ?_
        rintro e w1 ⟨rfl, hb1⟩
        go_wp2_with fail
        refine (Hc2.out _ hb1).mono ?_
        rintro e w2 ⟨rfl, hb2⟩
        have hbel := from_ hb1 hb2
        go_wp2
        go_ret2
        exact ⟨_, rfl, IsU.nil _ _, hbel⟩
    · have hE := errMk_two h1 h2
      rw [masksL_no (by rw [hE]; exact h2), hE]
      have t0 : (errR qss != 0) = true := by simp [h2]
      have Hc2 := Lib.hid hc2
      clear hE h1 h2 ha hm hK1 hK2 hc1 hc2
      generalize hn : pss.length = n at *
      generalize hm' : qss.length = m at *
      have Hn := Lib.hid hn
      have Hm' := Lib.hid hm'
      clear hn hm'
      generalize errR qss = E at *
      go_enter Try.func30, Try.ntmps30
      go_wp2_with fail
      refine Hc1.out.mono ?_
      rintro e w1 ⟨rfl, hb1⟩
      go_wp2_with fail
      refine (Hc2.out _ hb1).mono ?_
      rintro e w2 ⟨rfl, hb2⟩
      have hbel := from_ hb1 hb2
      go_wp2
      go_ret2
      exact ⟨_, rfl, IsU.nil _ _, hbel⟩
  · have hE := errMk_one (qss := qss) h1
    rw [masksL_no (by rw [hE]; exact h1), hE]
    have t0 : (errR pss != 0) = true := by simp [h1]
    have Hc1 := Lib.hid hc1
    clear hE h1 ha hm hK1 hK2 hc1 hc2
    generalize hn : pss.length = n at *
    generalize hm' : qss.length = m at *
    have Hn := Lib.hid hn
    have Hm' := Lib.hid hm'
    clear hn hm'
    generalize errR pss = E at *
    go_enter Try.func30, Try.ntmps30
    go_wp2_with fail
    refine Hc1.out.mono ?_
    rintro e w1 ⟨rfl, hb1⟩
    go_wp2
    go_ret2
    exact ⟨_, rfl, IsU.nil _ _, hb1⟩

end Go.Proofs.Ytjnjlgknmocdlaa
