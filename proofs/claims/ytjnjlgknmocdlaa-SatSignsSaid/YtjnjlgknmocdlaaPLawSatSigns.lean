/-
  facetroomlaw19.SatSigns, walked. No conditions.
-/
import Derived.Deep.RegionHeld3
import Derived.Test.YtjnjlgknmocdlaaPSatL
import Derived.Test.YtjnjlgknmocdlaaPWhJ
import Derived.Test.YtjnjlgknmocdlaaPVecP
namespace Go.Proofs.Ytjnjlgknmocdlaa
open Go.RowKit
set_option linter.unusedVariables false
set_option linter.unusedSimpArgs false

theorem maskN_bit (z : Nat → Bool) : ∀ (n i : Nat), i < n → bitB (maskN z n) i = z i := by
  intro n
  induction n with
  | zero => intro i hi; omega
  | succ n ih =>
    intro i hi
    have hl := maskN_lt z n
    by_cases h : i < n
    · rw [← ih i h, maskN]
      split
      · rw [bitB_test, bitB_test, ← or_pow hl, Nat.testBit_or, Nat.testBit_two_pow_of_ne (by omega), Bool.or_false]
      · rw [Nat.add_zero]
    · obtain rfl : i = n := by omega
      rw [maskN]
      cases hz : z i
      · rw [if_neg (by simp), Nat.add_zero, bitB_test]
        exact Nat.testBit_lt_two_pow hl
      · rw [if_pos rfl, bitB_test, ← or_pow hl, Nat.testBit_or, Nat.testBit_two_pow_self, Bool.or_true]
theorem maskN_over (z : Nat → Bool) (n : Nat) : maskN z n / 2 ^ n = 0 := Nat.div_eq_of_lt (maskN_lt z n)
theorem dotZ_comm (xs ys : List Int) : dotZ xs ys = dotZ ys xs := by
  unfold dotZ
  rw [List.zipWith_comm_of_comm (fun x y => Int.mul_comm x y)]
theorem bit_test {m i : Nat} (hm : m < 18446744073709551616) : (bits .and .u64 ((m : Int) / 2 ^ i) 1 == 1) = bitB m i := by
  have e : ((m : Int) / 2 ^ i) = ((m / 2 ^ i : Nat) : Int) := by
    rw [Int.natCast_ediv, Int.natCast_pow]
    rfl
  have h1 := u64_and_nat (m / 2 ^ i) 1 (Nat.lt_of_le_of_lt (Nat.div_le_self _ _) hm) (by omega)
  rw [e, show (1 : Int) = ((1 : Nat) : Int) from rfl, h1, Nat.and_one_is_mod]
  unfold bitB
  generalize m / 2 ^ i % 2 = z
  by_cases h : z = 1
  · subst h; rfl
  · rw [decide_eq_false h]
    exact beq_eq_false_iff_ne.2 (by omega)

set_option maxRecDepth 100000 in
set_option maxHeartbeats 8000000 in
theorem lawSatSigns {w : World} {l of : Value} {pss qss : Vecs} (hl : IsMat w old l pss) (hof : IsMat w old of qss) :
    Calls Try.prog 6 #[l, of] w fun e w' => e = .returned (.bool true) ∧ Below w.heap.size w w' := by
  obtain ⟨A, c, rfl, hl⟩ := hl
  obtain ⟨B, d, rfl, hof⟩ := hof
  have HA := Lib.hid (alive19 w)
  have k1 : greatM pss 20 8 2 = true ∨ greatM pss 20 8 2 = false := by cases greatM pss 20 8 2 <;> simp
  have k2 : greatM qss 20 8 2 = true ∨ greatM qss 20 8 2 = false := by cases greatM qss 20 8 2 <;> simp
  have G1 : Hid (∀ w1, Below w.heap.size w w1 → Calls Try.prog 32 #[.slice A pss.length c, .int .i64 20, .int .i64 8, .int .i64 2] w1 fun e w' => e = .returned (.bool (greatM pss 20 8 2)) ∧ w1 = w') := fun w1 h => r18great_any (M := 20) (L := 8) (K := 2) (hl.below h) (by omega) (by omega) (by omega)
  have G2 : Hid (∀ w1, Below w.heap.size w w1 → Calls Try.prog 32 #[.slice B qss.length d, .int .i64 20, .int .i64 8, .int .i64 2] w1 fun e w' => e = .returned (.bool (greatM qss 20 8 2)) ∧ w1 = w') := fun w1 h => r18great_any (M := 20) (L := 8) (K := 2) (hof.below h) (by omega) (by omega) (by omega)
  have hlen := hl.len
  have hlen2 := hof.len
  rcases k1 with k1 | k1
  · rw [k1] at G1
    clear k1 k2 hl hof G2
    generalize pss.length = P at *
    generalize qss.length = Q at *
    go_enter Try.func6, Try.ntmps6
    go_wp2_with fail
    refine HA.out.mono ?_
    rintro e w1 ⟨rfl, hB⟩
    go_wp2_with fail
    refine (G1.out _ hB).mono ?_
    rintro e _ ⟨rfl, rfl⟩
    go_wp2
    go_ret
    exact ⟨by first | rfl | trivial, hB⟩
  rw [k1] at G1
  rcases k2 with k2 | k2
  · rw [k2] at G2
    clear k1 k2 hl hof
    generalize pss.length = P at *
    generalize qss.length = Q at *
    go_enter Try.func6, Try.ntmps6
    go_wp2_with fail
    refine HA.out.mono ?_
    rintro e w1 ⟨rfl, hB⟩
    go_wp2_with fail
    refine (G1.out _ hB).mono ?_
    rintro e _ ⟨rfl, rfl⟩
    go_wp2_with fail
    refine (G2.out _ hB).mono ?_
    rintro e _ ⟨rfl, rfl⟩
    go_wp2
    go_ret
    exact ⟨by first | rfl | trivial, hB⟩
  rw [k2] at G2
  obtain ⟨n20, b1⟩ := greatM_no k1
  obtain ⟨m20, b2⟩ := greatM_no k2
  have K1 : ∀ qs ∈ pss, ∀ p ∈ qs, p.2.length ≤ 2 := fun qs hq => (greatV_lims (b1 qs hq)).2
  have K2 : ∀ qs ∈ qss, ∀ p ∈ qs, p.2.length ≤ 2 := fun qs hq => (greatV_lims (b2 qs hq)).2
  have HM : Hid (∀ w1, Below w.heap.size w w1 → Calls Try.prog 29 #[.slice A pss.length c, .slice B qss.length d] w1 fun e w' => ∃ u, e = .returned (.tuple #[u, .int .i64 (errMk pss qss)]) ∧ IsU w' old u (masksL pss qss) ∧ Below w1.heap.size w1 w') := fun w1 h => satmasks_any (hl.below h) (hof.below h) (fun _ => K1) (fun _ => K2) (by omega)
  by_cases hE : errMk pss qss = 0
  · rw [hE] at HM
    have hmz := errMk_zero hE
    rw [masksL_yes hE] at HM
    have Hp : Hid (∀ w1, Below w.heap.size w w1 → MatAt w1 old A c pss) := fun w1 h => hl.below h
    have Hq : Hid (∀ w1, Below w.heap.size w w1 → MatAt w1 old B d qss) := fun w1 h => hof.below h
    have Hsg : Hid (∀ (w1 : World) (q : List (Bool × List Nat)) (B2 : Option Addr) (d2 : Nat), Below w.heap.size w w1 → VecAt w1 old B2 d2 q → q ∈ qss →
        Calls Try.prog 27 #[.slice B2 q.length d2, .slice A pss.length c] w1 fun e w' => ∃ As cs, e = .returned (.tuple #[.slice As pss.length cs, .int .i64 0]) ∧ (∀ w2, Below w'.heap.size w' w2 → ∀ j, j < pss.length → ∃ b o, As = some ⟨b, o, none⟩ ∧ b < w2.heap.size ∧ w2.cell? ⟨b, o + j, none⟩ = some (.int .i64 (sgnD q (pss.getD j [])))) ∧ Below w1.heap.size w1 w') := fun w1 q B2 d2 hw hq hmem => by
      have h5 := satsigns_any hq (hl.below hw) (K2 q hmem) (fun _ => K1) (by omega)
      rw [hmz.2.2.2 q hmem, signsL_yes (hmz.2.2.2 q hmem)] at h5
      refine h5.mono ?_
      rintro e w' ⟨u, rfl, hu, hb⟩
      have hsl := signTo_len (ps := q) (Nat.le_refl pss.length)
      obtain ⟨As, cs, rfl, g1, g2, g3, g4⟩ := hu
      refine ⟨As, cs, by rw [hsl], fun w2 hw2 j hj => ?_, hb⟩
      obtain ⟨b, o, e1, hbb, hcc⟩ := g4 (by omega)
      refine ⟨b, o, e1, Nat.lt_of_lt_of_le hbb hw2.size, ?_⟩
      have := keepC hw2 (hcc j (by omega))
      rw [this]
      unfold signTo
      simp [List.getD, hj]
    have Hdot : Hid (∀ (w1 : World) (p q : List (Bool × List Nat)) (B1 : Option Addr) (d1 : Nat) (B2 : Option Addr) (d2 : Nat), VecAt w1 old B1 d1 p → VecAt w1 old B2 d2 q → p ∈ pss → q ∈ qss → ∃ (s : Bool) (m : List Nat), Nm (dotZ (zsV p) (zsV q)) s m ∧
        Calls Try.prog 33 #[.slice B1 p.length d1, .slice B2 q.length d2] w1 fun e w' => ∃ Av cv, e = .returned (.tuple #[.agg #[.bool s, .slice Av m.length cv], .int .i64 0]) ∧ U64s w' (new w1.heap.size) Av cv m ∧ Below w1.heap.size w1 w') := fun w1 p q B1 d1 B2 d2 hp hq hpm hqm => by
      obtain ⟨_, k1, k2⟩ := errG_zero (hmz.2.2.2 q hqm)
      obtain ⟨k3, k4⟩ := k2 p hpm
      exact ⟨_, _, Nm.mk' _, vdot_n hp hq (NmV.ok k3 hp.small) (NmV.ok k1 hq.small) k4 (okV_len k3) (K1 p hpm) (K2 q hqm) (by omega) (Nm.mk' _)⟩
    have Hmask : Hid (∀ k, k < qss.length → (maskTo pss qss qss.length).getD k 0 = maskN (zeroD pss (qss.getD k [])) pss.length) := fun k hk => by
      have e : (maskTo pss qss qss.length).getD k 0 = maskD pss (qss.getD k []) := by
        unfold maskTo
        simp [List.getD, hk]
      rw [e]
      rfl
    have hml := maskTo_len (pss := pss) (Nat.le_refl qss.length)
    have Hml := Lib.hid hml
    have hpm : Hid (∀ j (hj : j < pss.length), pss[j] ∈ pss ∧ pss.getD j [] = pss[j]) := fun j hj => ⟨List.getElem_mem hj, by simp [List.getD, hj]⟩
    clear k1 k2 b1 b2 K1 K2 hE hmz hl hof hml
    go_enter Try.func6, Try.ntmps6
    go_wp2_with fail
    refine HA.out.mono ?_
    rintro e w1 ⟨rfl, hB⟩
    go_wp2_with fail
    refine (G1.out _ hB).mono ?_
    rintro e _ ⟨rfl, rfl⟩
    go_wp2_with fail
    refine (G2.out _ hB).mono ?_
    rintro e _ ⟨rfl, rfl⟩
    go_wp2_with fail
    refine (HM.out _ hB).mono ?_
    rintro e w2 ⟨_, rfl, ⟨Am, cm, rfl, um⟩, hb⟩
    replace hB := from_ hB hb
    rw [Hml.out]
    have t0 : ((qss.length : Int) != (qss.length : Int)) = false := bne_self_eq_false _
    have HB2 := Lib.hid hB
    have HUm := Lib.hid um
    clear hB hb um HA G1 G2 HM
    go_wp2
    go_loopw [8] (fun s8 wr => ∃ k : Nat, k ≤ qss.length ∧ s8 = .int .i64 (k : Int) ∧ Below w2.heap.size w2 wr) (fun s8 _ => qss.length - (intOf s8).toNat)
    case atStart => exact ⟨0, Nat.zero_le _, rfl, Below.refl _ _⟩
    case round =>
      obtain ⟨k, hk, rfl, hbel⟩ := hrel
      by_cases hlt : k < qss.length
      · obtain ⟨b4, o4, B4, d4, rfl, hb4, c4, hv4⟩ := (Hq.out _ (from_ HB2.out hbel)).at hlt
        have hsg := Hsg.out _ _ _ _ (from_ HB2.out hbel) hv4 (List.getElem_mem hlt)
        have hv4l := hv4.len
        have Hsg2 := Lib.hid hsg
        have Hv4 := Lib.hid hv4
        have Hqm : Hid (qss[k] ∈ qss) := List.getElem_mem hlt
        have hmk := Hmask.out k hlt
        have e4 : qss.getD k [] = qss[k] := by simp [List.getD, hlt]
        rw [e4] at hmk
        have Hmk := Lib.hid hmk
        clear hsg hv4 hmk e4
        generalize qss[k] = q at *
        obtain ⟨w0, rfl⟩ : ∃ w0, w0 = wr := ⟨_, rfl⟩
        go_wp2_with fail
        refine Hsg2.out.mono ?_
        rintro e w3 ⟨As, cs, rfl, hsig, hb3⟩
        have hB3 := from_ hbel hb3
        have t1 : ((pss.length : Int) != (pss.length : Int)) = false := bne_self_eq_false _
        have Hsig := Lib.hid hsig
        replace c4 := keepC hb3 c4
        have Hv5 := Lib.hid (Hv4.out.below hb3)
        clear hsig hb3 Hsg2 Hv4 hbel
        go_wp2
        go_loopw [11] (fun s11 wr => ∃ j : Nat, j ≤ pss.length ∧ s11 = .int .i64 (j : Int) ∧ Below w3.heap.size w3 wr) (fun s11 _ => pss.length - (intOf s11).toNat)
        case atStart => exact ⟨0, Nat.zero_le _, rfl, Below.refl _ _⟩
        case round =>
          obtain ⟨j, hj, rfl, hbq⟩ := hrel
          have hbel := from_ hB3 hbq
          have hBw := from_ HB2.out hbel
          replace c4 := keepC hbq c4
          obtain ⟨bm, om, rfl, hbm, xm, ym⟩ := (HUm.out.below hbel).getD (j := k) (by rw [Hml.out]; exact hlt)
          rw [Hmk.out] at xm ym
          by_cases hjl : j < pss.length
          · obtain ⟨b5, o5, B5, d5, rfl, hb5, c5, hv5⟩ := (Hp.out _ hBw).at hjl
            obtain ⟨bs, os, rfl, hbs, xs⟩ := Hsig.out wr hbq j hjl
            have hbit := maskN_bit (zeroD pss q) pss.length j hjl
            have hz : zeroD pss q j = decide (sgnD q (pss.getD j []) = 0) := rfl
            rw [hz] at hbit
            rw [(hpm.out j hjl).2] at xs hbit
            have hdot := fun (w1 : World) (h : Below wr.heap.size wr w1) => Hdot.out w1 pss[j] q B5 d5 B4 d4 (hv5.below h) ((Hv5.out.below hbq).below h) (hpm.out j hjl).1 Hqm.out
            have hsd : sgnD q pss[j] = sgn (dotZ (zsV pss[j]) (zsV q)) := by unfold sgnD; rw [dotZ_comm]
            rw [hsd] at xs hbit
            have hbt := bit_test (i := j) ym
            rw [hbit] at hbt
            have hv5l := hv5.len
            obtain ⟨s, m, nz, _⟩ := hdot wr (Below.refl _ _)
            have hdot2 : ∀ (w1 : World), Below wr.heap.size wr w1 → Calls Try.prog 33 #[.slice B5 pss[j].length d5, .slice B4 q.length d4] w1 fun e w' => ∃ Av cv, e = .returned (.tuple #[.agg #[.bool s, .slice Av m.length cv], .int .i64 0]) ∧ U64s w' (new w1.heap.size) Av cv m ∧ Below w1.heap.size w1 w' := fun w1 h => by
              obtain ⟨s', m', nz', h'⟩ := hdot w1 h
              obtain ⟨rfl, rfl⟩ : s' = s ∧ m' = m := ⟨nz'.1.trans nz.1.symm, nz'.2.trans nz.2.symm⟩
              exact h'
            have Hd2 := Lib.hid hdot2
            generalize dotZ (zsV pss[j]) (zsV q) = zz at *
            obtain ⟨g, hg⟩ : ∃ g, sgn zz = g := ⟨_, rfl⟩
            rw [hg] at xs hbt
            have Hg := Lib.hid hg
            have Nz := Lib.hid nz
            have hgc : (decide (g = 0) = true ∧ ((g : Int) == 0) = true) ∨ (decide (g = 0) = false ∧ ((g : Int) == 0) = false) := by
              by_cases h : g = 0
              · exact .inl ⟨decide_eq_true h, by simp [h]⟩
              · exact .inr ⟨decide_eq_false h, beq_eq_false_iff_ne.2 h⟩
            have tgg : ((g : Int) != (g : Int)) = false := bne_self_eq_false _
            have Hxm := Lib.hid xm
            have Hxs := Lib.hid xs
            clear hdot hdot2 hg nz hv5 hsd hz hbit ym
            generalize maskN (zeroD pss q) pss.length = mk at *
            generalize pss[j] = p at *
            generalize p.length = pl at *
            generalize q.length = ql at *
            have s0 := (show wr.drew.cell? ⟨b5, o5 + j, none⟩ = _ from c5)
            have s1 := (show wr.drew.cell? ⟨b4, o4 + k, none⟩ = _ from c4)
            have hdr : Below wr.heap.size wr (wr.alloc (.cells #[.bool false, .slice none 0 0] 25)).drew := ((Below.refl _ _).alloc (Nat.le_refl _) _).drew
            have sa0 := keepC hdr c5
            have sa1 := keepC hdr c4
            have hdr0 : Below wr.heap.size wr wr.drew := (Below.refl _ _).drew
            have bN := (Box.new wr (.bool false) (.slice none 0 0) 25).below (W' := (wr.alloc (.cells #[.bool false, .slice none 0 0] 25)).drew) ((Below.refl _ _).drew)
            have l4 := lt_of_cell c4
            have l5 := lt_of_cell c5
            simp only at l4 l5
            have n5 : ¬ (wr.heap.size = b5) := by omega
            have n4 : ¬ (wr.heap.size = b4) := by omega
            have n5' : ¬ (b5 = wr.heap.size) := by omega
            have n4' : ¬ (b4 = wr.heap.size) := by omega
            have Hbel := Lib.hid hbq
            clear hbq hbel hBw xm xs
            go_wp2
            go_region_held3 (fun w' => w'.cell? ⟨b5, o5 + j, none⟩ = some (.slice B5 pl d5) ∧ w'.cell? ⟨b4, o4 + k, none⟩ = some (.slice B4 ql d4))
              (first
                | (go_keep; done)
                | exact ⟨sa0, sa1⟩
                | exact ⟨t5, t6⟩
                | exact ⟨t7, t8⟩)
              (first
                | (go_at_call 33; with_reducible refine (Hd2.out _ hdr0).mono ?_; rintro e w5 ⟨Av, cv, rfl, hu, hb5'⟩; have t5 := keepC hb5' s0; have t6 := keepC hb5' s1; obtain ⟨q0, q1, f0, f1, _⟩ := Box.new w5 (.bool false) (.slice none 0 0) 25)
                | (go_at_call 33; with_reducible refine (Hd2.out _ hdr).mono ?_; rintro e w5 ⟨Av, cv, rfl, hu, hb5'⟩; have t5 := keepC hb5' sa0; have t6 := keepC hb5' sa1; obtain ⟨q0, q1, f0, f1, _⟩ := bN.below hb5'; have t7 := (show ((w5.setCell ⟨wr.heap.size, 0, none⟩ (.bool s)).setCell ⟨wr.heap.size, 1, none⟩ (.slice Av m.length cv)).cell? ⟨b5, o5 + j, none⟩ = some (.slice B5 pl d5) from by rw [World.cell?_setCell_other _ _ _ _ (by simp <;> omega), World.cell?_setCell_other _ _ _ _ (by simp <;> omega)]; exact t5); have t8 := (show ((w5.setCell ⟨wr.heap.size, 0, none⟩ (.bool s)).setCell ⟨wr.heap.size, 1, none⟩ (.slice Av m.length cv)).cell? ⟨b4, o4 + k, none⟩ = some (.slice B4 ql d4) from by rw [World.cell?_setCell_other _ _ _ _ (by simp <;> omega), World.cell?_setCell_other _ _ _ _ (by simp <;> omega)]; exact t6)))
            · have hBx : Below wr.heap.size wr (w5.alloc (.cells #[.bool s, .slice Av m.length cv] 25)) := (from_ hdr0 hb5').alloc (from_ hdr0 hb5').size _
              have hux := hu.below ((Below.refl _ _).alloc (Nat.le_refl _) (.cells #[.bool s, .slice Av m.length cv] 25))
              have hs := sign_n Nz.out Hg.out hux
              have HS := Lib.hid hs
              have HBx := Lib.hid hBx
              clear sa0 sa1 s0 s1 t5 t6 hu hux hs hBx q0 q1 f0 f1 hb5' bN hdr hdr0
              go_wp2_with fail
              refine HS.out.mono ?_
              rintro e w6 ⟨rfl, hb6⟩
              have hb7 := from_ HBx.out hb6
              have xs := keepC hb7 Hxs.out
              have xm := keepC hb7 Hxm.out
              have Hb8 := Lib.hid (from_ Hbel.out hb7)
              clear hb6 hb7
              rcases hgc with ⟨h1, h2⟩ | ⟨h1, h2⟩
              all_goals
                rw [h1] at hbt
                clear h1
                go_wp2
                go_roundw
                case rel => exact ⟨j + 1, by omega, by go_num, Hb8.out⟩
                case measure => simp [intOf]; omega
            · have hP := (bN.below hb5').put (from_ hdr hb5') (Nat.le_refl _) (.bool s) (.slice Av m.length cv)
              have hux := hP.keep (by simp) (⟨Av, cv, rfl, hu⟩ : IsU w5 _ (.slice Av m.length cv) m)
              have hs : Calls Try.prog 34 #[.agg #[.bool s, .slice Av m.length cv]] ((w5.setCell ⟨wr.heap.size, 0, none⟩ (.bool s)).setCell ⟨wr.heap.size, 1, none⟩ (.slice Av m.length cv)) fun e w' => e = .returned (.tuple #[.int .i64 g, .int .i64 0]) ∧ Below ((w5.setCell ⟨wr.heap.size, 0, none⟩ (.bool s)).setCell ⟨wr.heap.size, 1, none⟩ (.slice Av m.length cv)).heap.size ((w5.setCell ⟨wr.heap.size, 0, none⟩ (.bool s)).setCell ⟨wr.heap.size, 1, none⟩ (.slice Av m.length cv)) w' := by
                obtain ⟨A', c', e', h'⟩ := hux
                injection e' with e1 e2 e3
                subst e1 e3
                exact sign_n Nz.out Hg.out h'
              have HS := Lib.hid hs
              have HBx := Lib.hid hP.bel
              have c0 := hP.c0
              have c1 := hP.c1
              clear sa0 sa1 s0 s1 t5 t6 t7 t8 hu hux hs hP q0 q1 f0 f1 hb5' bN hdr hdr0
              go_wp2_with fail
              refine HS.out.mono ?_
              rintro e w6 ⟨rfl, hb6⟩
              have hb7 := from_ HBx.out hb6
              have xs := keepC hb7 Hxs.out
              have xm := keepC hb7 Hxm.out
              have Hb8 := Lib.hid (from_ Hbel.out hb7)
              clear hb6 hb7 c0 c1
              rcases hgc with ⟨h1, h2⟩ | ⟨h1, h2⟩
              all_goals
                rw [h1] at hbt
                clear h1
                go_wp2
                go_roundw
                case rel => exact ⟨j + 1, by omega, by go_num, Hb8.out⟩
                case measure => simp [intOf]; omega
          · obtain rfl : j = pss.length := by omega
            have hov : ((maskN (zeroD pss q) pss.length : Nat) : Int) / 2 ^ pss.length = 0 := by
              have := maskN_over (zeroD pss q) pss.length
              have e : (2 : Int) ^ pss.length = ((2 ^ pss.length : Nat) : Int) := by rw [Int.natCast_pow]; rfl
              rw [e, ← Int.natCast_ediv, this]
              rfl
            have t3 : decide (pss.length < 64) = true := decide_eq_true (by omega)
            generalize maskN (zeroD pss q) pss.length = mk at *
            clear ym
            go_wp2
            go_roundw
            case rel => exact ⟨k + 1, by omega, by go_num, hbel⟩
            case measure => simp [intOf]; omega
      · go_wp2
        go_ret
        exact ⟨by first | rfl | trivial, from_ HB2.out hbel⟩
  · have t0 : (errMk pss qss != 0) = true := by simp [hE]
    rw [masksL_no hE] at HM
    clear k1 k2 b1 b2 K1 K2 hE hl hof
    generalize pss.length = P at *
    generalize qss.length = Q at *
    generalize errMk pss qss = E at *
    go_enter Try.func6, Try.ntmps6
    go_wp2_with fail
    refine HA.out.mono ?_
    rintro e w1 ⟨rfl, hB⟩
    go_wp2_with fail
    refine (G1.out _ hB).mono ?_
    rintro e _ ⟨rfl, rfl⟩
    go_wp2_with fail
    refine (G2.out _ hB).mono ?_
    rintro e _ ⟨rfl, rfl⟩
    go_wp2_with fail
    refine (HM.out _ hB).mono ?_
    rintro e w2 ⟨_, rfl, ⟨Am, cm, rfl, um⟩, hb⟩
    replace hB := from_ hB hb
    go_wp2
    go_ret
    exact ⟨by first | rfl | trivial, hB⟩

end Go.Proofs.Ytjnjlgknmocdlaa
