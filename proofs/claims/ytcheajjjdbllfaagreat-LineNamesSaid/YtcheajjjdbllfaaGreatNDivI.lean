/- The divider's steps in memory: what is given back; the guess. No conditions but bounds on lengths. -/
import Derived.WalkMore
import Derived.Test.YtcheajjjdbllfaaGreatNRefE
import Derived.Test.YtcheajjjdbllfaaGreatNWhC
set_option linter.unusedVariables false
set_option linter.unusedSimpArgs false
set_option maxRecDepth 100000
set_option maxHeartbeats 40000000
namespace Go.Proofs.YtcheajjjdbllfaaGreat
open Go.Lib (hid)
open Go.RowKit Go.Shelf
variable {B : Option Addr} {D R : List Nat} {Zd : Zone} {a cD cR g rb ro : Nat} {w : World}
structure Given_ (w : World) (rb ro cR : Nat) (R D : List Nat) (a : Nat) (c : Nat) (w' : World) (R' : List Nat) : Prop where
 one : c ≤ 1
 len : R'.length = R.length
 small : Small R'
 same : ∀ j (h : j < R'.length) (h' : j < R.length), a + D.length < j → R'[j] = R[j]
 eq : val R' + c * 18446744073709551616 ^ (a + D.length + 1) = val R + val D * 18446744073709551616 ^ a
 own : U64s w' (only rb) (some ⟨rb, ro, none⟩) cR R'
 just : Just rb w w'
theorem dback_any (h : Divr w g rb ro cR Zd B cD R D) (hn : a + D.length < R.length) :
  Calls Tryz.prog 155 #[.pointer (some ⟨g, 0, none⟩), .int .i64 (a : Int)] w fun e w' => ∃ c R', e = .returned (.bool (decide (0 < c))) ∧ Given_ w rb ro cR R D a c w' R' := by
 obtain ⟨nR, hlenR⟩ : ∃ nR, nR = R.length := ⟨_, rfl⟩
 have hmax := h.max
 have c0 := h.c0
 rw [← hlenR] at c0 hmax
 have c1 := h.c1
 have hst := BackI.start (R0 := R) (D := D) (a := a) h.own.small
 have hown0 := h.own
 have hne := h.ne
 have hnz := h.nz
 have hby := h.by_
 have hsD := hby.small
 obtain ⟨Hne, Hnz, Hlen⟩ := hid3 hne hnz hlenR
 clear h hne hnz hlenR
 have hDl : D.length ≤ 100000000000 := by have := Hlen.out; omega
 have hnR : nR ≤ 100000000000 := hmax
 have haR : a + D.length < nR := by have := Hlen.out; omega
 clear hn
 go_enter Tryz.func155, Tryz.ntmps155
 go_wp2
 go_loopw [14, 5] (fun iv cv wr => ∃ (i : Nat) (R' : List Nat) (cy : Nat), i ≤ D.length ∧ iv = .int .i64 i ∧ cv = .int .u64 (cy : Int) ∧ Hid (U64s wr (only rb) (some ⟨rb, ro, none⟩) cR R') ∧ Hid (BackI R D a i R' cy) ∧ Just rb w wr) (fun iv _ _ => D.length - (intOf iv).toNat)
 case atStart => exact ⟨0, R, 0, Nat.zero_le _, rfl, rfl, hid hown0, hid hst, Just.refl _ _⟩
 case round =>
  obtain ⟨i, R', cy, hi, rfl, rfl, hown, hback, hjust⟩ := hrel
  have k0 := hjust.cell Hne.out c0
  have k1 := hjust.cell Hne.out c1
  have hlen' := hback.out.len
  have hcy := hback.out.one
  have HL := hid hlen'
  clear hlen' hst hown0 c0 c1
  by_cases hlt : i < D.length
  · have hDr := hjust.words Hnz.out hby
    obtain ⟨b2, o2, rfl, hb2ne, _, _, hc2⟩ := hDr.open (by omega)
    have hy := hc2 i hlt
    have hyl := hsD.get hlt
    have hp : a + i < R'.length := by have := HL.out; have := Hlen.out; omega
    have hcell' := hown.out.cellAt hp
    have hxl := hback.out.small.get hp
    have hfr := hown.out.frozenAt trivial (by omega) (a + i)
    have hpl : a + i < nR := by omega
    have hstep := hback.out.step hlt hp hyl
    have hadd : ∀ w, (callFunc 140 #[.int .u64 (R'[a + i] : Int), .int .u64 (D[i] : Int), .int .u64 (cy : Int)]).run Tryz.prog w = .ok (.value (.tuple #[.int .u64 (((R'[a + i] + D[i] + cy) % 18446744073709551616 : Nat) : Int), .int .u64 (((R'[a + i] + D[i] + cy) / 18446744073709551616 : Nat) : Int)])) w := fun w => run_Add64 _ _ _ w hxl hyl hcy
    have Hstep := hid hstep
    have hvl : (R'[a + i] + D[i] + cy) % 18446744073709551616 < 18446744073709551616 := Nat.mod_lt _ (by omega)
    have o1 := hid (hown.out.store hp hvl)
    clear hstep hback hc2 hvl
    generalize D[i] = y at *
    generalize R'[a + i] = x at *
    generalize (x + y + cy) / 18446744073709551616 = ca at *
    generalize (x + y + cy) % 18446744073709551616 = v at *
    clear hby hsD hDr
    go_wp2
    go_region
    all_goals
     go_wp2
     go_roundw
     case rel =>
      refine ⟨i + 1, R'.set (a + i) v, ca, by omega, by go_num, rfl, ?_, Hstep, (hjust.setCell (ro + (a + i)) (.int .u64 (v : Int))).drew⟩
      exact hid (o1.out.drew)
     case measure => simp [intOf]; omega
  · obtain rfl : i = D.length := by omega
    have hp : a + D.length < R'.length := by have := HL.out; have := Hlen.out; omega
    have hcell' := hown.out.cellAt hp
    have hxl := hback.out.small.get hp
    have hfr := hown.out.frozenAt trivial (by omega) (a + D.length)
    obtain ⟨e1, e2, e3, hl1, e4⟩ := hback.out.last hp
    have hadd : ∀ w, (callFunc 140 #[.int .u64 (R'[a + D.length] : Int), .int .u64 0, .int .u64 (cy : Int)]).run Tryz.prog w = .ok (.value (.tuple #[.int .u64 (((R'[a + D.length] + cy) % 18446744073709551616 : Nat) : Int), .int .u64 (((R'[a + D.length] + cy) / 18446744073709551616 : Nat) : Int)])) w := fun w => run_Add64 _ 0 _ w hxl (by omega) hcy
    have Hfin := hid (And.intro e1 (And.intro e2 (And.intro e3 e4)))
    have hvl : (R'[a + D.length] + cy) % 18446744073709551616 < 18446744073709551616 := Nat.mod_lt _ (by omega)
    have o1 := hid (hown.out.store hp hvl)
    clear e1 e2 e3 e4 hback hvl
    generalize R'[a + D.length] = x at *
    generalize (x + cy) / 18446744073709551616 = c at *
    generalize (x + cy) % 18446744073709551616 = v at *
    clear hby hsD
    go_wp2
    go_region
    all_goals
     go_wp2
     go_ret
     refine ⟨c, R'.set (a + D.length) v, ?_, ⟨hl1, Hfin.out.1, Hfin.out.2.1, Hfin.out.2.2.1, Hfin.out.2.2.2, ?_, (hjust.setCell (ro + (a + D.length)) (.int .u64 (v : Int))).drew⟩⟩
     · first | rfl | (simp; done)
     · exact o1.out.drew
theorem guess_any {m : Nat} (h : Divr w g rb ro cR Zd B cD R D) (hD : D.length = m + 2) (hn : a + (m + 2) < R.length) (hz : ∀ j (h : j < R.length), a + (m + 2) < j → R[j] = 0)
  (hdig : val R / (val D * 18446744073709551616 ^ a) < 18446744073709551616) (hbig : ∀ h : m + 1 < D.length, 0 < D[m + 1]) :
  Calls Tryz.prog 153 #[.pointer (some ⟨g, 0, none⟩), .int .i64 (a : Int)] w fun e w' => ∃ q : Nat, e = .returned (.int .u64 (q : Int)) ∧ q < 18446744073709551616 ∧ val R / (val D * 18446744073709551616 ^ a) ≤ q ∧ Below w.heap.size w w' := by
 have hby := h.by_
 have hsD := hby.small
 have hsR := h.own.small
 have htop := digit_top hsR hsD hD hn hz
 obtain ⟨d, hd⟩ : ∃ d, d = val R / (val D * 18446744073709551616 ^ a) := ⟨_, rfl⟩
 rw [← hd] at htop hdig ⊢
 obtain ⟨nR, hlenR⟩ : ∃ nR, nR = R.length := ⟨_, rfl⟩
 have hmax := h.max
 have c0 := h.c0
 rw [← hlenR] at c0 hmax
 have c1 := h.c1
 have hown := h.own
 have hc := fun j (hj : j < R.length) => hown.cellAt hj
 have r1 := hc (a + (m + 2)) hn
 have r2 := hc (a + (m + 1)) (by omega)
 have r3 := hc (a + m) (by omega)
 have w1 := hsR.get hn
 have w2 := hsR.get (show a + (m + 1) < R.length by omega)
 have w3 := hsR.get (show a + m < R.length by omega)
 obtain ⟨b2, o2, rfl, hb2ne, _, _, hc2⟩ := hby.open (by omega)
 have y1 := hc2 (m + 1) (by omega)
 have y2 := hc2 m (by omega)
 have v1 := hsD.get (show m + 1 < D.length by omega)
 have v2 := hsD.get (show m < D.length by omega)
 have hb := hbig (by omega)
 obtain ⟨n, hn2⟩ : ∃ n, n = m + 2 := ⟨_, rfl⟩
 rw [hD, ← hn2] at c1
 have hlR : a + n < nR := by omega
 have hn3 : 2 ≤ n := by omega
 have hnR : nR ≤ 100000000000 := hmax
 clear hd hc hc2 hz hown hby hsD h hbig hsR
 generalize R[a + (m + 2)] = first at *
 generalize R[a + (m + 1)] = second at *
 generalize R[a + m] = third at *
 generalize D[m + 1] = high at *
 generalize D[m] = under at *
 rw [show ro + (a + (m + 2)) = ro + (a + n) by omega] at r1
 rw [show ro + (a + (m + 1)) = ro + (a + n - 1) by omega] at r2
 rw [show ro + (a + m) = ro + (a + n - 2) by omega] at r3
 rw [show o2 + (m + 1) = o2 + (n - 1) by omega] at y1
 rw [show o2 + m = o2 + (n - 2) by omega] at y2
 clear hD hn hlenR hn2
 by_cases hlt : first < high
 · have d1 : decide (high ≤ first) = false := decide_eq_false (by omega)
   have hst := GuessI.start hlt w2 v1 w3 htop
   have hdiv := fun w => div64_any w hlt w2 v1
   obtain ⟨Hst, Hdiv⟩ := hid2 hst hdiv
   clear hst hdiv
   generalize (first * 18446744073709551616 + second) / high = q0 at *
   generalize (first * 18446744073709551616 + second) % high = r0 at *
   go_enter Tryz.func153, Tryz.ntmps153
   go_wp2
   go_step3
   go_wp2
   go_quiet (fail)
   go_wp2_with fail
   refine (Hdiv.out _).mono ?_
   rintro e w1 ⟨rfl, hb1⟩
   have k0 := keepC hb1 c0
   have k1 := keepC hb1 c1
   have r3' := keepC hb1 r3
   have y2' := keepC hb1 y2
   have HB : Below w.heap.size w w1 := from_ (below_drewN' (Below.refl _ w) _) hb1
   clear c0 c1 r3 y2 r1 r2 y1
   go_wp2
   go_quiet (fail)
   go_wp2
   go_step3
   go_wp2
   go_loop [9, 10] (fun qv rv => ∃ q r : Nat, qv = .int .u64 (q : Int) ∧ rv = .int .u64 (r : Int) ∧ Hid (GuessI d first second high under third q r)) (fun qv _ => (intOf qv).toNat)
   case atStart => exact ⟨q0, r0, rfl, rfl, Hst⟩
   case round =>
    obtain ⟨q, r, rfl, rfl, hG⟩ := hrel
    have hq := hG.out.word
    have hr := hG.out.rest
    have hge := hG.out.ge
    have hmul := fun w => bits_Mul64 q under hq v2 w
    have hdm := Nat.div_add_mod (q * under) 18446744073709551616
    have hlo : q * under % 18446744073709551616 < 18446744073709551616 := Nat.mod_lt _ (by omega)
    have hless := fun h => hG.out.less htop h
    generalize q * under / 18446744073709551616 = hi at *
    generalize q * under % 18446744073709551616 = lo at *
    generalize q * under = p at *
    obtain ⟨Hm, Hless⟩ := hid2 hmul hless
    clear hmul hless Hst Hdiv htop
    have hcase : (hi < r) ∨ (hi = r ∧ lo ≤ third) ∨ (¬ hi < r ∧ ¬ (hi = r ∧ lo ≤ third)) := by omega
    rcases hcase with hA | ⟨hB1, hB2⟩ | ⟨hC1, hC2⟩
    · have f1 : decide (hi < r) = true := decide_eq_true hA
      clear hdm
      go_wp2_with fail
      refine (Hm.out _).mono ?_
      rintro e w' ⟨rfl, rfl⟩
      go_wp2
      rw [Exit.noGoto_ret]
      go_ret
      exact ⟨q, rfl, hq, hge, below_drewN' HB _⟩
    · have f1 : decide (hi < r) = false := decide_eq_false (by omega)
      have f2 : ((hi : Int) == (r : Int)) = true := by simp [hB1]
      have f3 : decide (lo ≤ third) = true := decide_eq_true hB2
      clear hdm hB1
      go_wp2_with fail
      refine (Hm.out _).mono ?_
      rintro e w' ⟨rfl, rfl⟩
      go_wp2
      rw [Exit.noGoto_ret]
      go_ret
      exact ⟨q, rfl, hq, hge, below_drewN' HB _⟩
    · have f1 : decide (hi < r) = false := decide_eq_false hC1
      obtain ⟨g1, g2⟩ := Hless.out (by
       rcases Nat.lt_or_ge r hi with h | h
       · have := Nat.mul_le_mul_right 18446744073709551616 h
         rw [Nat.succ_mul] at this
         omega
       · have : hi = r := by omega
         subst this
         omega)
      obtain ⟨q1, hq1⟩ : ∃ q1, q1 = q - 1 := ⟨_, rfl⟩
      have f4 : IntKind.u64.wrap ((q : Int) - 1) = (q1 : Int) := by rw [IntKind.wrap_u64]; omega
      have hlt1 : q1 < q := by omega
      rw [← hq1] at g2
      have hnext := fun h => hG.out.next g1 (by rw [← hq1]; exact g2) h
      rw [← hq1] at hnext
      have Hn := hid hnext
      have hq1w : q1 < 18446744073709551616 := by omega
      have hcmp : (((hi : Int) == (r : Int)) = false) ∨ (((hi : Int) == (r : Int)) = true ∧ decide (lo ≤ third) = false) := by
       by_cases h : hi = r
       · exact .inr ⟨by simp [h], decide_eq_false (fun h2 => hC2 ⟨h, h2⟩)⟩
       · exact .inl (beq_eq_false_iff_ne.2 (by omega))
      clear hdm hq1 hnext hC1 hC2 Hless
      by_cases hov : r + high < 18446744073709551616
      · have hadd : ∀ w, (callFunc 140 #[.int .u64 (r : Int), .int .u64 (high : Int), .int .u64 0]).run Tryz.prog w = .ok (.value (.tuple #[.int .u64 ((r + high : Nat) : Int), .int .u64 0])) w := fun w => by
         have := run_Add64 r high 0 w hr v1 (by omega)
         simpa [addZ, addC, Nat.mod_eq_of_lt hov, Nat.div_eq_of_lt hov] using this
        have HG := hid (Hn.out hov)
        clear hG hov Hn
        generalize r + high = r1 at *
        rcases hcmp with f2 | ⟨f2, f3⟩
        all_goals
         go_wp2_with fail
         refine (Hm.out _).mono ?_
         rintro e w' ⟨rfl, rfl⟩
         go_wp2
         go_round
         case rel => exact ⟨q1, r1, rfl, rfl, HG⟩
         case measure => simp [intOf]; omega
      · have hadd : ∀ w, (callFunc 140 #[.int .u64 (r : Int), .int .u64 (high : Int), .int .u64 0]).run Tryz.prog w = .ok (.value (.tuple #[.int .u64 (((r + high) % 18446744073709551616 : Nat) : Int), .int .u64 1])) w := fun w => by
         have := run_Add64 r high 0 w hr v1 (by omega)
         have h1 : (r + high + 0) / 18446744073709551616 = 1 := by omega
         rw [addC, h1] at this
         simpa [addZ] using this
        clear hG hov Hn
        generalize (r + high) % 18446744073709551616 = r1 at *
        rcases hcmp with f2 | ⟨f2, f3⟩
        all_goals
         go_wp2_with fail
         refine (Hm.out _).mono ?_
         rintro e w' ⟨rfl, rfl⟩
         go_wp2
         rw [Exit.noGoto_ret]
         go_ret
         exact ⟨q1, rfl, hq1w, g2, below_drewN' HB _⟩
 · have d1 : decide (high ≤ first) = true := decide_eq_true (by omega)
   go_enter Tryz.func153, Tryz.ntmps153
   go_wp2
   go_step3
   go_wp2
   go_quiet (fail)
   go_wp2
   rw [Exit.noGoto_ret]
   go_ret
   exact ⟨18446744073709551615, rfl, by omega, by omega, below_drewN' (Below.refl _ _) _⟩
end Go.Proofs.YtcheajjjdbllfaaGreat
