/-
  Signs and masks of rows: the document's own answer, at any words. No conditions but bounds on lengths.
  Masks turned: sat.Turn at any numbers; the document's Turn. No conditions.
-/
import Derived.Test.YtjnjlgknmocdlaaKSatR
import Derived.Test.YtjnjlgknmocdlaaKVecP
import Derived.Test.YtjnjlgknmocdlaaKMatD
namespace Go.Proofs.Ytjnjlgknmocdlaa
open Go.RowKit
set_option linter.unusedVariables false
set_option linter.unusedSimpArgs false

theorem wrap_nat64 (a : Nat) (ha : a < 18446744073709551616) : IntKind.u64.wrap (a : Int) = (a : Int) := by rw [IntKind.wrap_u64]; omega

/-- The document's sign of the product of two rows that may be. -/
theorem r7sign_any {w : World} {Z Y : Zone} {A B : Option Addr} {c d K : Nat} {ps qs : List (Bool × List Nat)} (ha : VecAt w Z A c ps) (hb : VecAt w Y B d qs) (h1 : okV ps = true) (h2 : okV qs = true) (hl : ps.length = qs.length) (hK1 : ∀ p ∈ ps, p.2.length ≤ K) (hK2 : ∀ p ∈ qs, p.2.length ≤ K) (hK : K ≤ 4000) :
    ∃ (s : Bool) (m : List Nat), Nm (dotZ (zsV ps) (zsV qs)) s m ∧
      Calls Try.prog 75 #[.slice A ps.length c, .slice B qs.length d] w fun e w' => ∃ Av cv, e = .returned (.agg #[.bool s, .slice Av m.length cv]) ∧ U64s w' (new w.heap.size) Av cv m ∧ Below w.heap.size w w' :=
  ⟨_, _, Nm.mk' _, r7product_n ha hb (NmV.ok h1 ha.small) (NmV.ok h2 hb.small) hl (okV_len h1) hK1 hK2 hK (Nm.mk' _)⟩

set_option maxRecDepth 100000 in
set_option maxHeartbeats 4000000 in
theorem refsigns_any {w : World} {Z Y : Zone} {A B : Option Addr} {c d K : Nat} {ps : List (Bool × List Nat)} {pss : Vecs} (ha : VecAt w Z A c ps) (hm : MatAt w Y B d pss)
    (hK1 : ∀ p ∈ ps, p.2.length ≤ K) (hK2 : pss.length ≤ 1024 → ∀ qs ∈ pss, ∀ p ∈ qs, p.2.length ≤ K) (hK : K ≤ 4000) :
    Calls Try.prog 28 #[.slice A ps.length c, .slice B pss.length d] w fun e w' => ∃ u, e = .returned (.tuple #[u, .int .i64 (errG ps pss)]) ∧ IsInts w' old u (signsL ps pss) ∧ Below w.heap.size w w' := by
  have hlen := hm.len
  have hlen2 := ha.len
  have hck := r18check_any hm
  obtain ⟨i0, hi, hz0, hz1, hz2⟩ := info_parts infoInt
  by_cases h0 : errR pss = 0
  · have hb := errR_zero h0
    rw [h0] at hck
    have Hck := Lib.hid hck
    have hcv := fun (w1 : World) (h : Below w.heap.size w w1) => r7may_any (ha.below h)
    by_cases h1 : okV ps = true
    · rw [h1] at hcv
      have Hcv := Lib.hid hcv
      clear hck hcv
      by_cases h2 : ∀ h3 : 0 < pss.length, pss[0].length = ps.length
      · have hE := errG_good h0 h1 h2
        have hz := errG_zero hE
        have hsl := signsL_yes hE
        rw [hE, hsl]
        have Hm : Hid (∀ w1, Below w.heap.size w w1 → MatAt w1 Y B d pss) := fun w1 h => hm.below h
        have Ha : Hid (∀ w1, Below w.heap.size w w1 → VecAt w1 Z A c ps) := fun w1 h => ha.below h
        have hl64 := okV_len h1
        have Hz := Lib.hid hz
        have hp1024 := hb.1
        have hKK := hK2 hb.1
        have Hdot : Hid (∀ (w1 : World) (q : List (Bool × List Nat)) (B2 : Option Addr) (d2 : Nat), Below w.heap.size w w1 → VecAt w1 Y B2 d2 q → q ∈ pss → ∃ (s : Bool) (m : List Nat), Nm (dotZ (zsV ps) (zsV q)) s m ∧
            Calls Try.prog 75 #[.slice A ps.length c, .slice B2 q.length d2] w1 fun e w' => ∃ Av cv, e = .returned (.agg #[.bool s, .slice Av m.length cv]) ∧ U64s w' (new w1.heap.size) Av cv m ∧ Below w1.heap.size w1 w') := fun w1 q B2 d2 hw hq hmem =>
          r7sign_any (Ha.out w1 hw) hq h1 (hz.2.2 q hmem).1 (hz.2.2 q hmem).2.symm hK1 (hKK q hmem) hK
        clear hE hsl hK1 hK2 hKK hb hz h0 h1
        have hp0 : pss.length = 0 ∨ 0 < pss.length := by omega
        have Htest : Hid (pss.length = 0 ∨ ∃ (b o : Nat) (B2 : Option Addr) (d2 : Nat), 0 < pss.length ∧ B = some ⟨b, o, none⟩ ∧ ∀ w1, Below w.heap.size w w1 → w1.cell? ⟨b, o, none⟩ = some (.slice B2 ps.length d2)) := by
          rcases hp0 with h | h
          · exact .inl h
          · obtain ⟨b, o, B2, d2, e, hb, c0, hv⟩ := hm.at h
            refine .inr ⟨b, o, B2, d2, h, e, fun w1 hw => ?_⟩
            rw [Nat.add_zero, h2 h] at c0
            exact keepC hw c0
        clear h2 hp0 ha hm
        go_enter Try.func28, Try.ntmps28
        go_wp2_with fail
        refine Hck.out.mono ?_
        rintro e w1 ⟨rfl, hb1⟩
        go_wp2_with fail
        refine (Hcv.out _ hb1).mono ?_
        rintro e w2 ⟨rfl, hb2⟩
        have hB2 := from_ hb1 hb2
        have hns : ((ps.length : Int) != (ps.length : Int)) = false := bne_self_eq_false _
        rcases Htest.out with h3 | ⟨b, o, B2, d2, h3, rfl, hc⟩
        · have e0 : pss = [] := List.length_eq_zero_iff.1 h3
          subst e0
          clear Htest h3 Hck Hcv hb1 hb2
          go_wp2
          go_loopw [7, 8] (fun s4 s35 wr => s4 = .slice none 0 0 ∧ s35 = .int .i64 0 ∧ Below w.heap.size w wr) (fun _ _ _ => 0)
          case atStart => exact ⟨rfl, rfl, hB2⟩
          case round =>
            clear hB2
            obtain ⟨rfl, rfl, hbel⟩ := hrel
            go_wp2
            go_ret2
            exact ⟨_, rfl, isInts_nil _, hbel⟩
        · have c0 := hc _ hB2
          clear Htest Hck Hcv hb1 hb2 hc
          go_wp2
          go_loopw [7, 8] (fun s4 s35 wr => ∃ k : Nat, k ≤ pss.length ∧ s35 = .int .i64 (k : Int) ∧ wr.ownsRow w.heap.size 3 1 s4 k ((signTo ps pss k).map fun x : Int => Value.int .i64 x) ∧ Below w.heap.size w wr) (fun _ s35 _ => pss.length - (intOf s35).toNat)
          case atStart => exact ⟨0, Nat.zero_le _, rfl, World.ownsRow_nil _ _ _ _, hB2⟩
          case round =>
            clear hB2 c0
            obtain ⟨k, hk, rfl, hown, hbel⟩ := hrel
            by_cases hlt : k < pss.length
            · obtain ⟨_, _, B3, d3, e, hb, c0, hv⟩ := (Hm.out _ hbel).at hlt
              cases e
              obtain ⟨s, m, nz, hdot⟩ := Hdot.out _ _ _ _ hbel hv (List.getElem_mem hlt)
              have hst : signTo ps pss (k + 1) = signTo ps pss k ++ [sgn (dotZ (zsV ps) (zsV pss[k]))] := signTo_succ hlt
              have hsb := sgn_bounds (dotZ (zsV ps) (zsV pss[k]))
              generalize dotZ (zsV ps) (zsV pss[k]) = z at *
              obtain ⟨g, hg⟩ : ∃ g, sgn z = g := ⟨_, rfl⟩
              rw [hg] at hst hsb
              have Hst := Lib.hid hst
              have Hdt := Lib.hid hdot
              have Nz := Lib.hid nz
              have Hg := Lib.hid hg
              have hq1 := hv.len
              have hk1 : k ≤ 1024 := by omega
              clear hst hdot nz hg hv
              generalize pss[k] = q at *
              generalize q.length = ql at *
              go_wp2_with fail
              refine Hdt.out.mono ?_
              rintro e w3 ⟨Av, cv, rfl, hu, hb3⟩
              have hs := r5signed_n Nz.out Hg.out hu
              have Hs := Lib.hid hs
              have hB3 := from_ hbel hb3
              have hown3 := own_below hown hb3
              clear hs hown hb3 hbel hu c0
              go_wp2_with fail
              refine Hs.out.mono ?_
              rintro e w4 ⟨rfl, hb4⟩
              have hown4 := own_below hown3 hb4
              have hB4 := from_ hB3 hb4
              clear hown3 hB3 hb4 Hs
              go_wp2_with (at_builtin; go_loud (refine wpList_app1 _ rfl _ _ 44 rfl w.heap.size 3 i0 (.int .i64 0) Try.underlying44 hi hz0 hz1 hz2 rfl _ _ _ rfl (hown4.alloc _) w4.heap.size (.int .i64 g) rfl (cell_newest rfl rfl) rfl (by omega) (by have := hB4.size; simp; omega) ?_); intro v' w5 hown' hgrow; go_loud (have hb5 : Below w.heap.size w w5 := (hB4.alloc hB4.size _).grown hgrow (by have := hB4.size; simp; omega) (own_nil_of hown4)))
              go_roundw
              case rel =>
                refine ⟨k + 1, by omega, by go_num, ?_, hb5⟩
                rw [Hst.out]
                simpa using hown'
              case measure => simp [intOf]; omega
            · obtain rfl : k = pss.length := by omega
              have hfin := ints_own hown signTo_small
              have HF := Lib.hid hfin
              clear hfin hown
              go_wp2
              go_ret2
              exact ⟨_, rfl, HF.out, hbel⟩
      · obtain ⟨h3, h4⟩ : ∃ h3 : 0 < pss.length, pss[0].length ≠ ps.length := Classical.byContradiction fun hn => h2 fun h3 => Classical.byContradiction fun h5 => hn ⟨h3, h5⟩
        have hE := errG_dim h0 h1 h3 h4
        rw [hE, signsL_no (by rw [hE]; decide)]
        obtain ⟨b, o, B2, d2, rfl, hb, c0, hv⟩ := hm.at h3
        have hvl := hv.len
        rw [Nat.add_zero] at c0
        have hns : ((pss[0].length : Int) != (ps.length : Int)) = true := by simp; omega
        clear hE h0 h1 h2 h4 hv ha hm
        generalize pss[0].length = q at *
        generalize ps.length = L at *
        generalize pss.length = M at *
        go_enter Try.func28, Try.ntmps28
        go_wp2_with fail
        refine Hck.out.mono ?_
        rintro e w1 ⟨rfl, hb1⟩
        go_wp2_with fail
        refine (Hcv.out _ hb1).mono ?_
        rintro e w2 ⟨rfl, hb2⟩
        have hB2 := from_ hb1 hb2
        replace c0 := keepC hB2 c0
        go_wp2
        go_ret2
        exact ⟨_, rfl, isInts_nil _, hB2⟩
    · have h1' : okV ps = false := by cases h : okV ps <;> simp_all
      have hE := errG_bad h0 h1'
      rw [hE, signsL_no (by rw [hE]; decide)]
      rw [h1'] at hcv
      have Hcv := Lib.hid hcv
      clear hck hcv hE h0 h1 h1' ha hm
      generalize ps.length = L at *
      generalize pss.length = M at *
      go_enter Try.func28, Try.ntmps28
      go_wp2_with fail
      refine Hck.out.mono ?_
      rintro e w1 ⟨rfl, hb1⟩
      go_wp2_with fail
      refine (Hcv.out _ hb1).mono ?_
      rintro e w2 ⟨rfl, hb2⟩
      have hB2 := from_ hb1 hb2
      go_wp2
      go_ret2
      exact ⟨_, rfl, isInts_nil _, hB2⟩
  · have hE := errG_check (ps := ps) h0
    rw [signsL_no (by rw [hE]; exact h0), hE]
    have t0 : (errR pss != 0) = true := by simp [h0]
    have Hck := Lib.hid hck
    clear hck hE h0 ha hm
    generalize ps.length = L at *
    generalize pss.length = M at *
    generalize errR pss = E at *
    go_enter Try.func28, Try.ntmps28
    go_wp2_with fail
    refine Hck.out.mono ?_
    rintro e w1 ⟨rfl, hb1⟩
    go_wp2
    go_ret2
    exact ⟨_, rfl, isInts_nil _, hb1⟩

set_option maxRecDepth 100000 in
set_option maxHeartbeats 4000000 in
theorem refmask_any {w : World} {Z Y : Zone} {A B : Option Addr} {c d K : Nat} {ps : List (Bool × List Nat)} {pss : Vecs} (ha : VecAt w Z A c ps) (hm : MatAt w Y B d pss) (hE : errG ps pss = 0) (h3 : pss.length ≤ 64)
    (hK1 : ∀ p ∈ ps, p.2.length ≤ K) (hK2 : ∀ qs ∈ pss, ∀ p ∈ qs, p.2.length ≤ K) (hK : K ≤ 4000) :
    Calls Try.prog 76 #[.slice A ps.length c, .slice B pss.length d] w fun e w' => e = .returned (.int .u64 (maskD pss ps : Int)) ∧ Below w.heap.size w w' := by
  have hz := errG_zero hE
  have Hm : Hid (∀ w1, Below w.heap.size w w1 → MatAt w1 Y B d pss) := fun w1 h => hm.below h
  have Ha : Hid (∀ w1, Below w.heap.size w w1 → VecAt w1 Z A c ps) := fun w1 h => ha.below h
  have Hdot : Hid (∀ (w1 : World) (q : List (Bool × List Nat)) (B2 : Option Addr) (d2 : Nat), Below w.heap.size w w1 → VecAt w1 Y B2 d2 q → q ∈ pss → ∃ (s : Bool) (m : List Nat), Nm (dotZ (zsV ps) (zsV q)) s m ∧
      Calls Try.prog 75 #[.slice A ps.length c, .slice B2 q.length d2] w1 fun e w' => ∃ Av cv, e = .returned (.agg #[.bool s, .slice Av m.length cv]) ∧ U64s w' (new w1.heap.size) Av cv m ∧ Below w1.heap.size w1 w') := fun w1 q B2 d2 hw hq hmem =>
    r7sign_any (Ha.out w1 hw) hq hz.2.1 (hz.2.2 q hmem).1 (hz.2.2 q hmem).2.symm hK1 (hK2 q hmem) hK
  have Hat : Hid (∀ k (hk : k < pss.length), zeroD pss ps k = decide (sgn (dotZ (zsV ps) (zsV pss[k])) = 0)) := fun k hk => by
    have e : pss.getD k [] = pss[k] := by simp [List.getD, hk]
    unfold zeroD sgnD
    rw [e]
  have hlp := ha.len
  clear hz hE hK1 hK2 ha hm
  unfold maskD
  go_enter Try.func76, Try.ntmps76
  go_wp2
  go_loopw [5, 6] (fun s5 s6 wr => ∃ k : Nat, k ≤ pss.length ∧ s6 = .int .i64 (k : Int) ∧ s5 = .int .u64 (maskN (zeroD pss ps) k : Int) ∧ Below w.heap.size w wr) (fun _ s6 _ => pss.length - (intOf s6).toNat)
  case atStart => exact ⟨0, Nat.zero_le _, rfl, rfl, Below.refl _ _⟩
  case round =>
    obtain ⟨k, hk, rfl, rfl, hbel⟩ := hrel
    by_cases hlt : k < pss.length
    · obtain ⟨b, o, B3, d3, rfl, hb, c0, hv⟩ := (Hm.out _ hbel).at hlt
      obtain ⟨s, m, nz, hdot⟩ := Hdot.out _ _ _ _ hbel hv (List.getElem_mem hlt)
      have hat := Hat.out k hlt
      generalize dotZ (zsV ps) (zsV pss[k]) = z at *
      obtain ⟨g, hg⟩ : ∃ g, sgn z = g := ⟨_, rfl⟩
      rw [hg] at hat
      have Hdt := Lib.hid hdot
      have Nz := Lib.hid nz
      have Hg := Lib.hid hg
      have Hat2 := Lib.hid hat
      have hq1 := hv.len
      have hk64 : k < 64 := by omega
      have hp64 := pow_lt64 hk64
      have hml := maskN_lt (zeroD pss ps) k
      have hml2 := maskN_lt (zeroD pss ps) (k + 1)
      have hp65 := pow_le64 (show k + 1 ≤ 64 by omega)
      have hw := wrap_pow hk64
      clear hdot nz hg hv hat
      generalize pss[k] = q at *
      generalize q.length = ql at *
      have hcase : g = 0 ∨ g ≠ 0 := by omega
      have Hc := Lib.hid hcase
      clear hcase
      rcases Hc.out with hg | hg
      · have tg : ((g : Int) == 0) = true := by simp [hg]
        have hy := maskN_yes (z := zeroD pss ps) (k := k) (Hat2.out.trans (decide_eq_true hg))
        rw [hy] at hml2
        have hs2 : ((maskN (zeroD pss ps) k : Nat) : Int) + ((2 ^ k : Nat) : Int) = ((maskN (zeroD pss ps) (k + 1) : Nat) : Int) := by rw [hy]; rfl
        have hlt2 : maskN (zeroD pss ps) k + 2 ^ k < 18446744073709551616 := by omega
        have hw2 := wrap_nat64 (maskN (zeroD pss ps) (k + 1)) (by rw [hy]; exact hlt2)
        clear hg hy hml hml2 hp65 hlt2
        generalize 2 ^ k = p at *
        generalize maskN (zeroD pss ps) k = x at *
        go_wp2_with fail
        refine Hdt.out.mono ?_
        rintro e w3 ⟨Av, cv, rfl, hu, hb3⟩
        have hs := r5signed_n Nz.out Hg.out hu
        have Hs := Lib.hid hs
        have hB3 := from_ hbel hb3
        clear hs hb3 hbel hu c0
        go_wp2_with fail
        refine Hs.out.mono ?_
        rintro e w4 ⟨rfl, hb4⟩
        have hB4 := from_ hB3 hb4
        go_wp2
        go_roundw
        case rel => exact ⟨k + 1, by omega, by go_num, by first | rfl | trivial, hB4⟩
        case measure => simp [intOf]; omega
      · have tg : ((g : Int) == 0) = false := beq_eq_false_iff_ne.2 hg
        have hy := maskN_no (z := zeroD pss ps) (k := k) (Hat2.out.trans (decide_eq_false hg))
        have Hy := Lib.hid hy
        clear hg hy hml hml2 hp65 hw hp64
        generalize maskN (zeroD pss ps) k = x at *
        go_wp2_with fail
        refine Hdt.out.mono ?_
        rintro e w3 ⟨Av, cv, rfl, hu, hb3⟩
        have hs := r5signed_n Nz.out Hg.out hu
        have Hs := Lib.hid hs
        have hB3 := from_ hbel hb3
        clear hs hb3 hbel hu c0
        go_wp2_with fail
        refine Hs.out.mono ?_
        rintro e w4 ⟨rfl, hb4⟩
        have hB4 := from_ hB3 hb4
        go_wp2
        go_roundw
        case rel => exact ⟨k + 1, by omega, by go_num, by rw [Hy.out], hB4⟩
        case measure => simp [intOf]; omega
    · obtain rfl : k = pss.length := by omega
      go_wp2
      go_ret
      exact ⟨rfl, hbel⟩

end Go.Proofs.Ytjnjlgknmocdlaa

namespace Go.Proofs.Ytjnjlgknmocdlaa
open Go.RowKit
set_option linter.unusedVariables false
set_option linter.unusedSimpArgs false

set_option maxRecDepth 100000 in
set_option maxHeartbeats 2000000 in
theorem satturn_any {w : World} {Z : Zone} {v : Value} {ms : List Nat} {n : Int} (h : IsU w Z v ms) (hb : -9223372036854775808 ≤ n ∧ n ≤ 9223372036854775807) :
    Calls Try.prog 17 #[v, .int .i64 n] w fun e w' => ∃ u, e = .returned (.tuple #[u, .int .i64 (turnE ms n)]) ∧ IsU w' old u (turnL ms n) ∧ Below w.heap.size w w' := by
  obtain ⟨A, c, rfl, hu⟩ := h
  have hlen := hu.len
  by_cases h1 : 0 ≤ n ∧ n ≤ 64 ∧ ms.length ≤ 64
  · obtain ⟨g1, g2, g3⟩ := h1
    obtain ⟨m, rfl⟩ : ∃ m : Nat, n = (m : Int) := ⟨n.toNat, by omega⟩
    exact satturn_good hu g3 (by omega)
  · have hck := fun (w1 : World) => satchecked_any (w := w1) (A := A) (c := c) hlen
    have bN := Box.new
    by_cases h0 : ms.length ≤ 4096
    · have e1 : errK ms = 0 := by unfold errK; rw [if_pos h0]
      have hE := turnE_arg h0 h1
      rw [hE, turnL_no (by rw [hE]; decide)]
      rw [e1] at hck
      have Hck := Lib.hid hck
      have hcase : n < 0 ∨ (¬ n < 0 ∧ 64 < n) ∨ (¬ n < 0 ∧ ¬ 64 < n ∧ 64 < ms.length) := by omega
      clear hck e1 hE h1 hu h0 bN
      generalize ms.length = L at *
      rcases hcase with h | ⟨h, h2⟩ | ⟨h, h2, h3⟩
      · have m1 : decide (n < 0) = true := decide_eq_true h
        clear h
        go_enter Try.func17, Try.ntmps17
        go_wp2_with fail
        refine (Hck.out _).mono ?_
        rintro e _ ⟨rfl, rfl⟩
        go_wp2
        refine bodyPost_ret (v := .tuple #[.slice none 0 0, .int .i64 2]) (by simp [results, Try.f17, go_sem]) rfl ?_
        exact ⟨_, rfl, IsU.nil _ _, by go_grown⟩
      · have m1 : decide (n < 0) = false := decide_eq_false h
        have m2 : decide (64 < n) = true := decide_eq_true h2
        clear h h2
        go_enter Try.func17, Try.ntmps17
        go_wp2_with fail
        refine (Hck.out _).mono ?_
        rintro e _ ⟨rfl, rfl⟩
        go_wp2
        refine bodyPost_ret (v := .tuple #[.slice none 0 0, .int .i64 2]) (by simp [results, Try.f17, go_sem]) rfl ?_
        exact ⟨_, rfl, IsU.nil _ _, by go_grown⟩
      · have m1 : decide (n < 0) = false := decide_eq_false h
        have m2 : decide (64 < n) = false := decide_eq_false h2
        have m3 : decide ((64 : Int) < (L : Int)) = true := decide_eq_true (by omega)
        clear h h2 h3
        go_enter Try.func17, Try.ntmps17
        go_wp2_with fail
        refine (Hck.out _).mono ?_
        rintro e _ ⟨rfl, rfl⟩
        go_wp2
        refine bodyPost_ret (v := .tuple #[.slice none 0 0, .int .i64 2]) (by simp [results, Try.f17, go_sem]) rfl ?_
        exact ⟨_, rfl, IsU.nil _ _, by go_grown⟩
    · have e1 : errK ms = 4 := by unfold errK; rw [if_neg h0]
      have hE := turnE_many (n := n) h0
      rw [hE, turnL_no (by rw [hE]; decide)]
      rw [e1] at hck
      have Hck := Lib.hid hck
      clear hck e1 hE h1 hu h0 bN
      generalize ms.length = L at *
      go_enter Try.func17, Try.ntmps17
      go_wp2_with fail
      refine (Hck.out _).mono ?_
      rintro e _ ⟨rfl, rfl⟩
      go_wp2
      refine bodyPost_ret (v := .tuple #[.slice none 0 0, .int .i64 4]) (by simp [results, Try.f17, go_sem]) rfl ?_
      exact ⟨_, rfl, IsU.nil _ _, by go_grown⟩

theorem colsN_succ (ms : List Nat) (n k : Nat) : colsN ms (n + 1) k = colsN ms n k ++ [colK ms n k] := by
  unfold colsN
  rw [List.range_succ, List.map_append]
  rfl
theorem colsN_small {ms : List Nat} {n k : Nat} (h : k ≤ 64) : Small (colsN ms n k) := fun x hx => by
  unfold colsN at hx
  obtain ⟨i, _, rfl⟩ := List.mem_map.1 hx
  exact Nat.lt_of_lt_of_le (colK_lt ms i k) (pow_le64 h)

set_option maxRecDepth 100000 in
set_option maxHeartbeats 4000000 in
theorem refturn_good {w : World} {Z : Zone} {A : Option Addr} {c : Nat} {ms : List Nat} {n : Nat} (hu : U64s w Z A c ms) (h64 : ms.length ≤ 64) (hn : n ≤ 64) :
    Calls Try.prog 18 #[.slice A ms.length c, .int .i64 (n : Int)] w fun e w' => ∃ u, e = .returned (.tuple #[u, .int .i64 (turnE ms n)]) ∧ IsU w' old u (turnL ms n) ∧ Below w.heap.size w w' := by
  have hlen := hu.len
  obtain ⟨i0, hif, hz0, hz1, hz2⟩ := info_parts infoW
  have m0 : decide ((4096 : Int) < (ms.length : Int)) = false := decide_eq_false (by omega)
  have m1 : decide ((n : Int) < 0) = false := decide_eq_false (by omega)
  have m2 : decide ((64 : Int) < (n : Int)) = false := decide_eq_false (by omega)
  have m3 : decide ((64 : Int) < (ms.length : Int)) = false := decide_eq_false (by omega)
  go_enter Try.func18, Try.ntmps18
  go_wp2
  go_loopw [6] (fun s6 wr => ∃ k : Nat, k ≤ ms.length ∧ s6 = .int .i64 (k : Int) ∧ w = wr ∧ Hid (∀ j, j < k → fitB (ms.getD j 0) n = true)) (fun s6 _ => ms.length - (intOf s6).toNat)
  case atStart => exact ⟨0, Nat.zero_le _, rfl, rfl, Lib.hid fun j h => absurd h (by omega)⟩
  case round =>
    obtain ⟨k, hk, rfl, rfl, hfit⟩ := hrel
    by_cases hlt : k < ms.length
    · obtain ⟨b, o, rfl, hb, xk, yk⟩ := hu.getD hlt
      have hmk : ms.getD k 0 ∈ ms := by
        have e : ms.getD k 0 = ms[k] := by simp [List.getD, hlt]
        rw [e]
        exact List.getElem_mem hlt
      have Hmk := Lib.hid hmk
      have Hnext : Hid (fitB (ms.getD k 0) n = true → ∀ j, j < k + 1 → fitB (ms.getD j 0) n = true) := fun hx j hj => by
        rcases Nat.lt_or_ge j k with h3 | h3
        · exact hfit.out j h3
        · obtain rfl : j = k := by omega
          exact hx
      clear hmk
      generalize ms.getD k 0 = m at *
      go_wp2
      go_loopw [7] (fun s7 wr => ∃ i : Nat, n ≤ i ∧ i ≤ 64 ∧ s7 = .int .i64 (i : Int) ∧ w = wr ∧ Hid (∀ j, n ≤ j → j < i → bitB m j = false)) (fun s7 _ => 64 - (intOf s7).toNat)
      case atStart => exact ⟨n, Nat.le_refl _, hn, rfl, rfl, Lib.hid fun j h h2 => absurd h (by omega)⟩
      case round =>
        obtain ⟨i, hi1, hi2, rfl, rfl, hz⟩ := hrel
        by_cases hil : i < 64
        · have hh := has_any (w := w) yk (i := i) (by omega)
          have hcase : bitB m i = true ∨ bitB m i = false := by cases bitB m i <;> simp
          rcases hcase with hc | hc
          · have hE : turnE ms (n : Int) = 8 := by
              refine turnE_bad h64 hn Hmk.out ?_
              cases hf : fitB m n
              · rfl
              · have := fitB_iff.1 hf i hil hc
                omega
            have HE := Lib.hid hE
            rw [hc] at hh
            have Hh := Lib.hid hh
            clear hh hE hc
            go_wp2_with fail
            refine Hh.out.mono ?_
            rintro e _ ⟨rfl, rfl⟩
            go_wp2
            go_ret2
            rw [turnL_no (by rw [HE.out]; decide), HE.out]
            exact ⟨_, rfl, IsU.nil _ _, Below.refl _ _⟩
          · have Hz2 : Hid (∀ j, n ≤ j → j < i + 1 → bitB m j = false) := fun j h1 h2 => by
              rcases Nat.lt_or_ge j i with h3 | h3
              · exact hz.out j h1 h3
              · obtain rfl : j = i := by omega
                exact hc
            rw [hc] at hh
            have Hh := Lib.hid hh
            clear hh hc hz
            go_wp2_with fail
            refine Hh.out.mono ?_
            rintro e _ ⟨rfl, rfl⟩
            go_wp2
            go_roundw
            case rel => exact ⟨i + 1, by omega, by omega, by go_num, by trivial, Hz2⟩
            case measure => simp [intOf]; omega
        · have hfk : fitB m n = true := fitB_iff.2 fun j hj hb => by
            refine Classical.byContradiction fun hx => ?_
            rw [hz.out j (by omega) (by omega)] at hb
            cases hb
          have Hf := Lib.hid (Hnext.out hfk)
          clear hfk
          go_wp2
          go_roundw
          case rel => exact ⟨k + 1, by omega, by go_num, by trivial, Hf⟩
          case measure => simp [intOf]; omega
    · obtain rfl : k = ms.length := by omega
      have hE : turnE ms (n : Int) = 0 := turnE_good h64 hn fun m hm => by
        obtain ⟨j, hj, rfl⟩ := List.getElem_of_mem hm
        have := hfit.out j hj
        rwa [show ms.getD j 0 = ms[j] by simp [List.getD, hj]] at this
      have HE := Lib.hid hE
      clear hE hfit
      go_wp2
      go_loopw [8, 9] (fun s8 s9 wr => ∃ i : Nat, i ≤ n ∧ s9 = .int .i64 (i : Int) ∧ wr.ownsRow w.heap.size 34 1 s8 i ((colsN ms i ms.length).map fun x : Nat => Value.int .u64 (x : Int)) ∧ Below w.heap.size w wr) (fun _ s9 _ => n - (intOf s9).toNat)
      case atStart => exact ⟨0, Nat.zero_le _, rfl, World.ownsRow_nil _ _ _ _, Below.refl _ _⟩
      case round =>
        obtain ⟨i, hi, rfl, hown, hbel⟩ := hrel
        by_cases hin : i < n
        · have hst := colsN_succ ms i ms.length
          have Hst := Lib.hid hst
          clear hst
          go_wp2
          obtain ⟨w0, rfl⟩ : ∃ w0, w0 = wr := ⟨_, rfl⟩
          go_loopw [10, 11] (fun s10 s11 wr => ∃ k : Nat, k ≤ ms.length ∧ s11 = .int .i64 (k : Int) ∧ s10 = .int .u64 (colK ms i k : Int) ∧ w0 = wr) (fun _ s11 _ => ms.length - (intOf s11).toNat)
          case atStart => exact ⟨0, Nat.zero_le _, rfl, rfl, rfl⟩
          case round =>
            obtain ⟨k, hk, rfl, rfl, rfl⟩ := hrel
            by_cases hlt : k < ms.length
            · obtain ⟨b, o, rfl, hb, xk, yk⟩ := (hu.below hbel).getD hlt
              have hcol : colK ms i (k + 1) = colK ms i k + if bitB (ms.getD k 0) i = true then 2 ^ k else 0 := rfl
              have hh := has_any (w := w0) yk (i := i) (by omega)
              have hcl := colK_lt ms i k
              have hk64 : k < 64 := by omega
              have hp64 := pow_lt64 hk64
              have hp65 := pow_le64 (show k + 1 ≤ 64 by omega)
              have hcl2 := colK_lt ms i (k + 1)
              have hw := wrap_pow hk64
              have hcase : bitB (ms.getD k 0) i = true ∨ bitB (ms.getD k 0) i = false := by cases bitB (ms.getD k 0) i <;> simp
              generalize ms.getD k 0 = m at *
              rcases hcase with hc | hc
              · rw [hc, if_pos rfl] at hcol
                rw [hc] at hh
                have hs2 : ((colK ms i k : Nat) : Int) + ((2 ^ k : Nat) : Int) = ((colK ms i (k + 1) : Nat) : Int) := by rw [hcol]; rfl
                have hw2 := wrap_nat64 (colK ms i (k + 1)) (Nat.lt_of_lt_of_le hcl2 hp65)
                have Hh := Lib.hid hh
                clear hh hc hcol hcl hcl2 hp65 hown
                generalize 2 ^ k = p at *
                generalize colK ms i k = x at *
                go_wp2_with fail
                refine Hh.out.mono ?_
                rintro e _ ⟨rfl, rfl⟩
                go_wp2
                go_roundw
                case rel => exact ⟨k + 1, by omega, by go_num, by first | rfl | trivial, by trivial⟩
                case measure => simp [intOf]; omega
              · rw [hc, if_neg (by simp), Nat.add_zero] at hcol
                rw [hc] at hh
                have Hcol := Lib.hid hcol
                have Hh := Lib.hid hh
                clear hh hc hcol hcl hcl2 hp65 hp64 hw hown
                generalize colK ms i k = x at *
                go_wp2_with fail
                refine Hh.out.mono ?_
                rintro e _ ⟨rfl, rfl⟩
                go_wp2
                go_roundw
                case rel => exact ⟨k + 1, by omega, by go_num, by first | (rw [Hcol.out]; done) | rw [Hcol.out, Nat.add_zero], by trivial⟩
                case measure => simp [intOf]; omega
            · obtain rfl : k = ms.length := by omega
              have hx := Nat.lt_of_lt_of_le (colK_lt ms i ms.length) (pow_le64 h64)
              generalize colK ms i ms.length = x at *
              go_wp2_with (at_builtin; go_loud (refine wpList_app1 _ rfl _ _ 22 rfl w.heap.size 34 i0 (.int .u64 0) Try.underlying22 hif hz0 hz1 hz2 rfl _ _ _ rfl (hown.alloc _) w0.heap.size (.int .u64 (x : Int)) rfl (cell_newest rfl rfl) rfl (by omega) (by have := hbel.size; simp; omega) ?_); intro v' w5 hown' hgrow; go_loud (have hb5 : Below w.heap.size w w5 := (hbel.alloc hbel.size _).grown hgrow (by have := hbel.size; simp; omega) (own_nil_of hown)))
              go_roundw
              case rel =>
                refine ⟨i + 1, by omega, by go_num, ?_, hb5⟩
                rw [Hst.out]
                simpa using hown'
              case measure => simp [intOf]; omega
        · obtain rfl : i = n := by omega
          have hfin := isU_own hown (colsN_small h64)
          have HF := Lib.hid hfin
          clear hfin hown
          go_wp2
          go_ret2
          rw [turnL_yes HE.out, HE.out]
          exact ⟨_, rfl, HF.out, hbel⟩

set_option maxRecDepth 100000 in
set_option maxHeartbeats 2000000 in
theorem refturn_any {w : World} {Z : Zone} {v : Value} {ms : List Nat} {n : Int} (h : IsU w Z v ms) (hb : -9223372036854775808 ≤ n ∧ n ≤ 9223372036854775807) :
    Calls Try.prog 18 #[v, .int .i64 n] w fun e w' => ∃ u, e = .returned (.tuple #[u, .int .i64 (turnE ms n)]) ∧ IsU w' old u (turnL ms n) ∧ Below w.heap.size w w' := by
  obtain ⟨A, c, rfl, hu⟩ := h
  have hlen := hu.len
  by_cases h1 : 0 ≤ n ∧ n ≤ 64 ∧ ms.length ≤ 64
  · obtain ⟨g1, g2, g3⟩ := h1
    obtain ⟨m, rfl⟩ : ∃ m : Nat, n = (m : Int) := ⟨n.toNat, by omega⟩
    exact refturn_good hu g3 (by omega)
  · by_cases h0 : ms.length ≤ 4096
    · have m0 : decide ((4096 : Int) < (ms.length : Int)) = false := decide_eq_false (by omega)
      have hE := turnE_arg h0 h1
      rw [hE, turnL_no (by rw [hE]; decide)]
      have hcase : n < 0 ∨ (¬ n < 0 ∧ 64 < n) ∨ (¬ n < 0 ∧ ¬ 64 < n ∧ 64 < ms.length) := by omega
      clear hE h1 hu h0
      generalize ms.length = L at *
      rcases hcase with h | ⟨h, h2⟩ | ⟨h, h2, h3⟩
      · have m1 : decide (n < 0) = true := decide_eq_true h
        clear h
        go_enter Try.func18, Try.ntmps18
        go_wp2
        go_ret2
        exact ⟨_, rfl, IsU.nil _ _, Below.refl _ _⟩
      · have m1 : decide (n < 0) = false := decide_eq_false h
        have m2 : decide (64 < n) = true := decide_eq_true h2
        clear h h2
        go_enter Try.func18, Try.ntmps18
        go_wp2
        go_ret2
        exact ⟨_, rfl, IsU.nil _ _, Below.refl _ _⟩
      · have m1 : decide (n < 0) = false := decide_eq_false h
        have m2 : decide (64 < n) = false := decide_eq_false h2
        have m3 : decide ((64 : Int) < (L : Int)) = true := decide_eq_true (by omega)
        clear h h2 h3
        go_enter Try.func18, Try.ntmps18
        go_wp2
        go_ret2
        exact ⟨_, rfl, IsU.nil _ _, Below.refl _ _⟩
    · have m0 : decide ((4096 : Int) < (ms.length : Int)) = true := decide_eq_true (by omega)
      have hE := turnE_many (n := n) h0
      rw [hE, turnL_no (by rw [hE]; decide)]
      clear hE h1 hu h0
      generalize ms.length = L at *
      go_enter Try.func18, Try.ntmps18
      go_wp2
      go_ret2
      exact ⟨_, rfl, IsU.nil _ _, Below.refl _ _⟩

end Go.Proofs.Ytjnjlgknmocdlaa
