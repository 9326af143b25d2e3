/-
  The walk of WholeTexts. The one premise: the table of powers of ten reads as it is laid. No conditions.
-/
import Derived.Test.YtdhknjflelkghaaGreatDoorHDigS
import Derived.Test.YtdhknjflelkghaaGreatDoorHWhQ
namespace Go.Proofs.YtdhknjflelkghaaGreatDoor
open Go.RowKit
set_option linter.unusedVariables false
set_option linter.unusedSimpArgs false

set_option maxRecDepth 100000 in
set_option maxHeartbeats 4000000 in
theorem wtexts00 {w : World} {a : Value} {s : Bool} {l : List Nat} {x : ByteArray} {n : Int} (ha : IsI w old a s l) (h0 : l.length ≤ 50) (hx : x.size ≤ 1000) (hn : -9223372036854775808 ≤ n ∧ n ≤ 9223372036854775807) (ht : Tab w) (hE : wErrT s l ≠ 0) (hP : wparE x.data.toList ≠ 0) :
    Calls Tryz.prog 3 #[a, .string x, .int .i64 n] w fun e w' => e = .returned (.bool true) ∧ Below w.heap.size w w' := by
  obtain ⟨tx, htx⟩ : ∃ tx : ByteArray, tx = ⟨(wTxtT s l).toArray⟩ := ⟨_, rfl⟩
  obtain ⟨er, her⟩ : ∃ er, er = wErrT s l := ⟨_, rfl⟩
  obtain ⟨sn, ln, nn⟩ : ∃ s l, Nm n s l := ⟨_, _, Nm.mk' n⟩
  obtain ⟨_, rfl, A, ca, rfl, hu⟩ := ha
  have hsm := hu.small
  have hB : Below w.heap.size w (w.alloc (.cells #[.bool s, .slice A l.length ca] 25)) := (Below.refl _ w).alloc (Nat.le_refl _) _
  obtain ⟨a0, a1, _, _, _⟩ := Box.new w (.bool s) (.slice A l.length ca) 25
  have uA := hu.below hB
  clear hu
  have hd1 : decide ((50 : Int) < (l.length : Int)) = false := decide_eq_false (by omega)
  have hd2 : decide ((1000 : Int) < (x.size : Int)) = false := decide_eq_false (by omega)
  have her1 : (er == 0) = false := beq_eq_false_iff_ne.2 (by rw [her]; exact hE)
  obtain ⟨pe, hpe⟩ : ∃ pe, pe = wparE x.data.toList := ⟨_, rfl⟩
  have hpe0 : pe ≠ 0 := fun e => hP (by rw [← hpe, e])
  have hpe1 : (pe == 0) = false := beq_eq_false_iff_ne.2 hpe0
  have hpe2 : (pe != 0) = true := by simp [hpe0]
  obtain ⟨q1, q2⟩ := wpar_none hP
  have Hsg := Lib.hid q1
  have Hm := Lib.hid q2
  have Hpe := Lib.hid hpe.symm
  clear hpe hpe0 q1 q2 hP
  have Ht := Lib.hid ht
  have Htx := Lib.hid htx
  have Her := Lib.hid her
  have Hn := Lib.hid nn
  have Hnr := Lib.hid hn
  have Hx := Lib.hid (show x.size ≤ 9223372036854775807 by omega)
  clear ht htx her nn hn hsm hE
  go_enter Tryz.func3, Tryz.ntmps3
  go_wp2_with fail
  refine (alive5 _).mono ?_
  rintro e w1 ⟨rfl, hb⟩
  replace a0 := keepC hb a0
  replace a1 := keepC hb a1
  replace uA := uA.below hb
  replace hB := from_ hB hb
  clear hb
  have htext := wtext_any (s := s) uA (by omega) (Ht.out.below hB)
  rw [show strV (wTxtT s l) = .string tx from by rw [Htx.out], ← Her.out] at htext
  have Htext := Lib.hid htext
  clear htext
  go_wp2_with fail
  refine (Htext.out).mono ?_
  rintro e w2 ⟨rfl, hb⟩
  replace a0 := keepC hb a0
  replace a1 := keepC hb a1
  replace uA := uA.below hb
  replace hB := from_ hB hb
  clear hb
  clear Htext
  go_wp2_with fail
  refine (wparse_at x Hpe.out Hsg.out Hm.out Hx.out).mono ?_
  rintro e w3 ⟨A3, c3, rfl, uP, hb⟩
  have hal : Below w3.heap.size w3 (w3.alloc (.cells #[.bool false, .slice A3 0 c3] 25)) := (Below.refl _ _).alloc (Nat.le_refl _) _
  replace uP := uP.below hal
  obtain ⟨xP, yP, _, _, _⟩ := Box.new w3 (.bool false) (.slice A3 0 c3) 25
  have hs := from_ hb hal
  replace a0 := keepC hs a0
  replace a1 := keepC hs a1
  replace uA := uA.below hs
  replace hB := from_ hB hs
  clear hb hal hs
  have htext := wtext_any (s := false) (l := []) uP (by simp) (Ht.out.below hB)
  rw [wtext_nought.1, wtext_nought.2] at htext
  have Htext := Lib.hid htext
  clear htext
  go_wp2_with fail
  refine (Htext.out).mono ?_
  rintro e w4 ⟨rfl, hb⟩
  replace a0 := keepC hb a0
  replace a1 := keepC hb a1
  replace xP := keepC hb xP
  replace yP := keepC hb yP
  replace uA := uA.below hb
  replace uP := uP.below hb
  replace hB := from_ hB hb
  clear hb
  clear Htext
  go_wp2_with fail
  refine (wof_nS Hn.out Hnr.out).mono ?_
  rintro e w5 ⟨A5, c5, rfl, uN, hb⟩
  replace a0 := keepC hb a0
  replace a1 := keepC hb a1
  replace xP := keepC hb xP
  replace yP := keepC hb yP
  replace uA := uA.below hb
  replace uP := uP.below hb
  replace hB := from_ hB hb
  clear hb
  go_wp2_with fail
  refine (wint_z (Hn.out.isZ uN) Hnr.out).mono ?_
  rintro e w6 ⟨rfl, hb⟩
  replace a0 := keepC hb a0
  replace a1 := keepC hb a1
  replace xP := keepC hb xP
  replace yP := keepC hb yP
  replace uA := uA.below hb
  replace uP := uP.below hb
  replace uN := uN.below hb
  replace hB := from_ hB hb
  clear hb
  go_wp2
  go_ret
  exact ⟨by first | rfl | trivial | simp, hB⟩

set_option maxRecDepth 100000 in
set_option maxHeartbeats 4000000 in
theorem wtexts01 {w : World} {a : Value} {s : Bool} {l : List Nat} {x : ByteArray} {n : Int} (ha : IsI w old a s l) (h0 : l.length ≤ 50) (hx : x.size ≤ 1000) (hn : -9223372036854775808 ≤ n ∧ n ≤ 9223372036854775807) (ht : Tab w) (hE : wErrT s l ≠ 0) (hP : wparE x.data.toList = 0) :
    Calls Tryz.prog 3 #[a, .string x, .int .i64 n] w fun e w' => e = .returned (.bool true) ∧ Below w.heap.size w w' := by
  obtain ⟨tx, htx⟩ : ∃ tx : ByteArray, tx = ⟨(wTxtT s l).toArray⟩ := ⟨_, rfl⟩
  obtain ⟨er, her⟩ : ∃ er, er = wErrT s l := ⟨_, rfl⟩
  obtain ⟨sn, ln, nn⟩ : ∃ s l, Nm n s l := ⟨_, _, Nm.mk' n⟩
  obtain ⟨_, rfl, A, ca, rfl, hu⟩ := ha
  have hsm := hu.small
  have hB : Below w.heap.size w (w.alloc (.cells #[.bool s, .slice A l.length ca] 25)) := (Below.refl _ w).alloc (Nat.le_refl _) _
  obtain ⟨a0, a1, _, _, _⟩ := Box.new w (.bool s) (.slice A l.length ca) 25
  have uA := hu.below hB
  clear hu
  have hd1 : decide ((50 : Int) < (l.length : Int)) = false := decide_eq_false (by omega)
  have hd2 : decide ((1000 : Int) < (x.size : Int)) = false := decide_eq_false (by omega)
  have her1 : (er == 0) = false := beq_eq_false_iff_ne.2 (by rw [her]; exact hE)
  obtain ⟨q1, q2, q3, q4⟩ := wpar_back hP
  obtain ⟨sg, hsg⟩ : ∃ sg, sg = wparS x.data.toList := ⟨_, rfl⟩
  obtain ⟨m, hm⟩ : ∃ m, m = wparL x.data.toList := ⟨_, rfl⟩
  rw [← hsg, ← hm] at q3 q4
  rw [← hm] at q2
  have Q2 := Lib.hid (show m.length ≤ 20000 by omega)
  have Q3 := Lib.hid q3
  have Q4 := Lib.hid q4
  have Hsg := Lib.hid hsg.symm
  have Hm := Lib.hid hm.symm
  have Hpe := Lib.hid hP
  clear q1 q2 q3 q4 hsg hm hP
  have Ht := Lib.hid ht
  have Htx := Lib.hid htx
  have Her := Lib.hid her
  have Hn := Lib.hid nn
  have Hnr := Lib.hid hn
  have Hx := Lib.hid (show x.size ≤ 9223372036854775807 by omega)
  clear ht htx her nn hn hsm hE
  go_enter Tryz.func3, Tryz.ntmps3
  go_wp2_with fail
  refine (alive5 _).mono ?_
  rintro e w1 ⟨rfl, hb⟩
  replace a0 := keepC hb a0
  replace a1 := keepC hb a1
  replace uA := uA.below hb
  replace hB := from_ hB hb
  clear hb
  have htext := wtext_any (s := s) uA (by omega) (Ht.out.below hB)
  rw [show strV (wTxtT s l) = .string tx from by rw [Htx.out], ← Her.out] at htext
  have Htext := Lib.hid htext
  clear htext
  go_wp2_with fail
  refine (Htext.out).mono ?_
  rintro e w2 ⟨rfl, hb⟩
  replace a0 := keepC hb a0
  replace a1 := keepC hb a1
  replace uA := uA.below hb
  replace hB := from_ hB hb
  clear hb
  clear Htext
  go_wp2_with fail
  refine (wparse_at x Hpe.out Hsg.out Hm.out Hx.out).mono ?_
  rintro e w3 ⟨A3, c3, rfl, uP, hb⟩
  have hal : Below w3.heap.size w3 (w3.alloc (.cells #[.bool sg, .slice A3 m.length c3] 25)) := (Below.refl _ _).alloc (Nat.le_refl _) _
  replace uP := uP.below hal
  obtain ⟨xP, yP, _, _, _⟩ := Box.new w3 (.bool sg) (.slice A3 m.length c3) 25
  have hs := from_ hb hal
  replace a0 := keepC hs a0
  replace a1 := keepC hs a1
  replace uA := uA.below hs
  replace hB := from_ hB hs
  clear hb hal hs
  have htext := wtext_any (s := sg) uP Q2.out (Ht.out.below hB)
  rw [Q3.out, Q4.out, show strV x.data.toList = .string x from by show Value.string _ = Value.string x; rw [strB (s := x) rfl]] at htext
  have Htext := Lib.hid htext
  clear htext
  go_wp2_with fail
  refine (Htext.out).mono ?_
  rintro e w4 ⟨rfl, hb⟩
  replace a0 := keepC hb a0
  replace a1 := keepC hb a1
  replace xP := keepC hb xP
  replace yP := keepC hb yP
  replace uA := uA.below hb
  replace uP := uP.below hb
  replace hB := from_ hB hb
  clear hb
  clear Htext
  go_wp2_with fail
  refine (wof_nS Hn.out Hnr.out).mono ?_
  rintro e w5 ⟨A5, c5, rfl, uN, hb⟩
  replace a0 := keepC hb a0
  replace a1 := keepC hb a1
  replace xP := keepC hb xP
  replace yP := keepC hb yP
  replace uA := uA.below hb
  replace uP := uP.below hb
  replace hB := from_ hB hb
  clear hb
  go_wp2_with fail
  refine (wint_z (Hn.out.isZ uN) Hnr.out).mono ?_
  rintro e w6 ⟨rfl, hb⟩
  replace a0 := keepC hb a0
  replace a1 := keepC hb a1
  replace xP := keepC hb xP
  replace yP := keepC hb yP
  replace uA := uA.below hb
  replace uP := uP.below hb
  replace uN := uN.below hb
  replace hB := from_ hB hb
  clear hb
  go_wp2
  go_ret
  exact ⟨by first | rfl | trivial | simp, hB⟩

set_option maxRecDepth 100000 in
set_option maxHeartbeats 4000000 in
theorem wtexts10 {w : World} {a : Value} {s : Bool} {l : List Nat} {x : ByteArray} {n : Int} (ha : IsI w old a s l) (h0 : l.length ≤ 50) (hx : x.size ≤ 1000) (hn : -9223372036854775808 ≤ n ∧ n ≤ 9223372036854775807) (ht : Tab w) (hE : wErrT s l = 0) (hP : wparE x.data.toList ≠ 0) :
    Calls Tryz.prog 3 #[a, .string x, .int .i64 n] w fun e w' => e = .returned (.bool true) ∧ Below w.heap.size w w' := by
  obtain ⟨tx, htx⟩ : ∃ tx : ByteArray, tx = ⟨(wTxtT s l).toArray⟩ := ⟨_, rfl⟩
  obtain ⟨er, her⟩ : ∃ er, er = wErrT s l := ⟨_, rfl⟩
  obtain ⟨sn, ln, nn⟩ : ∃ s l, Nm n s l := ⟨_, _, Nm.mk' n⟩
  obtain ⟨_, rfl, A, ca, rfl, hu⟩ := ha
  have hsm := hu.small
  have hB : Below w.heap.size w (w.alloc (.cells #[.bool s, .slice A l.length ca] 25)) := (Below.refl _ w).alloc (Nat.le_refl _) _
  obtain ⟨a0, a1, _, _, _⟩ := Box.new w (.bool s) (.slice A l.length ca) 25
  have uA := hu.below hB
  clear hu
  have hd1 : decide ((50 : Int) < (l.length : Int)) = false := decide_eq_false (by omega)
  have hd2 : decide ((1000 : Int) < (x.size : Int)) = false := decide_eq_false (by omega)
  have htl : tx.data.toList = wTxtT s l := by rw [htx]
  obtain ⟨p1, p2, p3⟩ := wtext_par hsm hE
  rw [← htl] at p1 p2 p3
  have htz : tx.size ≤ 9223372036854775807 := by
    have := (wpar_zero p1).1
    have h2 : tx.size ≤ (restL tx.data.toList).length + 1 := by
      rw [str_size rfl]
      unfold restL
      split
      · rename_i h; rw [h]; simp
      · omega
    omega
  have her0 : er = 0 := by rw [her, hE]
  subst her0
  have P1 := Lib.hid p1
  have P2 := Lib.hid p2
  have P3 := Lib.hid p3
  have Htz := Lib.hid htz
  clear htl p1 p2 p3 htz
  obtain ⟨pe, hpe⟩ : ∃ pe, pe = wparE x.data.toList := ⟨_, rfl⟩
  have hpe0 : pe ≠ 0 := fun e => hP (by rw [← hpe, e])
  have hpe1 : (pe == 0) = false := beq_eq_false_iff_ne.2 hpe0
  have hpe2 : (pe != 0) = true := by simp [hpe0]
  obtain ⟨q1, q2⟩ := wpar_none hP
  have Hsg := Lib.hid q1
  have Hm := Lib.hid q2
  have Hpe := Lib.hid hpe.symm
  clear hpe hpe0 q1 q2 hP
  have Ht := Lib.hid ht
  have Htx := Lib.hid htx
  have Her := Lib.hid her
  have Hn := Lib.hid nn
  have Hnr := Lib.hid hn
  have Hx := Lib.hid (show x.size ≤ 9223372036854775807 by omega)
  clear ht htx her nn hn hsm hE
  go_enter Tryz.func3, Tryz.ntmps3
  go_wp2_with fail
  refine (alive5 _).mono ?_
  rintro e w1 ⟨rfl, hb⟩
  replace a0 := keepC hb a0
  replace a1 := keepC hb a1
  replace uA := uA.below hb
  replace hB := from_ hB hb
  clear hb
  have htext := wtext_any (s := s) uA (by omega) (Ht.out.below hB)
  rw [show strV (wTxtT s l) = .string tx from by rw [Htx.out], ← Her.out] at htext
  have Htext := Lib.hid htext
  clear htext
  go_wp2_with fail
  refine (Htext.out).mono ?_
  rintro e w2 ⟨rfl, hb⟩
  replace a0 := keepC hb a0
  replace a1 := keepC hb a1
  replace uA := uA.below hb
  replace hB := from_ hB hb
  clear hb
  clear Htext
  go_wp2_with fail
  refine (wparse_at tx P1.out P2.out P3.out Htz.out).mono ?_
  rintro e w3 ⟨A3, c3, rfl, uB, hb⟩
  have hal : Below w3.heap.size w3 (w3.alloc (.cells #[.bool s, .slice A3 l.length c3] 25)) := (Below.refl _ _).alloc (Nat.le_refl _) _
  replace uB := uB.below hal
  obtain ⟨xB, yB, _, _, _⟩ := Box.new w3 (.bool s) (.slice A3 l.length c3) 25
  have hs := from_ hb hal
  replace a0 := keepC hs a0
  replace a1 := keepC hs a1
  replace uA := uA.below hs
  replace hB := from_ hB hs
  clear hb hal hs
  go_wp2_with fail
  refine (same_n uA uB).mono ?_
  rintro e w4 ⟨rfl, hb⟩
  replace a0 := keepC hb a0
  replace a1 := keepC hb a1
  replace xB := keepC hb xB
  replace yB := keepC hb yB
  replace uA := uA.below hb
  replace uB := uB.below hb
  replace hB := from_ hB hb
  clear hb
  clear xB yB uB
  go_wp2_with fail
  refine (wparse_at x Hpe.out Hsg.out Hm.out Hx.out).mono ?_
  rintro e w5 ⟨A5, c5, rfl, uP, hb⟩
  have hal : Below w5.heap.size w5 (w5.alloc (.cells #[.bool false, .slice A5 0 c5] 25)) := (Below.refl _ _).alloc (Nat.le_refl _) _
  replace uP := uP.below hal
  obtain ⟨xP, yP, _, _, _⟩ := Box.new w5 (.bool false) (.slice A5 0 c5) 25
  have hs := from_ hb hal
  replace a0 := keepC hs a0
  replace a1 := keepC hs a1
  replace uA := uA.below hs
  replace hB := from_ hB hs
  clear hb hal hs
  have htext := wtext_any (s := false) (l := []) uP (by simp) (Ht.out.below hB)
  rw [wtext_nought.1, wtext_nought.2] at htext
  have Htext := Lib.hid htext
  clear htext
  go_wp2_with fail
  refine (Htext.out).mono ?_
  rintro e w6 ⟨rfl, hb⟩
  replace a0 := keepC hb a0
  replace a1 := keepC hb a1
  replace xP := keepC hb xP
  replace yP := keepC hb yP
  replace uA := uA.below hb
  replace uP := uP.below hb
  replace hB := from_ hB hb
  clear hb
  clear Htext
  go_wp2_with fail
  refine (wof_nS Hn.out Hnr.out).mono ?_
  rintro e w7 ⟨A7, c7, rfl, uN, hb⟩
  replace a0 := keepC hb a0
  replace a1 := keepC hb a1
  replace xP := keepC hb xP
  replace yP := keepC hb yP
  replace uA := uA.below hb
  replace uP := uP.below hb
  replace hB := from_ hB hb
  clear hb
  go_wp2_with fail
  refine (wint_z (Hn.out.isZ uN) Hnr.out).mono ?_
  rintro e w8 ⟨rfl, hb⟩
  replace a0 := keepC hb a0
  replace a1 := keepC hb a1
  replace xP := keepC hb xP
  replace yP := keepC hb yP
  replace uA := uA.below hb
  replace uP := uP.below hb
  replace uN := uN.below hb
  replace hB := from_ hB hb
  clear hb
  go_wp2
  go_ret
  exact ⟨by first | rfl | trivial | simp, hB⟩

set_option maxRecDepth 100000 in
set_option maxHeartbeats 4000000 in
theorem wtexts11 {w : World} {a : Value} {s : Bool} {l : List Nat} {x : ByteArray} {n : Int} (ha : IsI w old a s l) (h0 : l.length ≤ 50) (hx : x.size ≤ 1000) (hn : -9223372036854775808 ≤ n ∧ n ≤ 9223372036854775807) (ht : Tab w) (hE : wErrT s l = 0) (hP : wparE x.data.toList = 0) :
    Calls Tryz.prog 3 #[a, .string x, .int .i64 n] w fun e w' => e = .returned (.bool true) ∧ Below w.heap.size w w' := by
  obtain ⟨tx, htx⟩ : ∃ tx : ByteArray, tx = ⟨(wTxtT s l).toArray⟩ := ⟨_, rfl⟩
  obtain ⟨er, her⟩ : ∃ er, er = wErrT s l := ⟨_, rfl⟩
  obtain ⟨sn, ln, nn⟩ : ∃ s l, Nm n s l := ⟨_, _, Nm.mk' n⟩
  obtain ⟨_, rfl, A, ca, rfl, hu⟩ := ha
  have hsm := hu.small
  have hB : Below w.heap.size w (w.alloc (.cells #[.bool s, .slice A l.length ca] 25)) := (Below.refl _ w).alloc (Nat.le_refl _) _
  obtain ⟨a0, a1, _, _, _⟩ := Box.new w (.bool s) (.slice A l.length ca) 25
  have uA := hu.below hB
  clear hu
  have hd1 : decide ((50 : Int) < (l.length : Int)) = false := decide_eq_false (by omega)
  have hd2 : decide ((1000 : Int) < (x.size : Int)) = false := decide_eq_false (by omega)
  have htl : tx.data.toList = wTxtT s l := by rw [htx]
  obtain ⟨p1, p2, p3⟩ := wtext_par hsm hE
  rw [← htl] at p1 p2 p3
  have htz : tx.size ≤ 9223372036854775807 := by
    have := (wpar_zero p1).1
    have h2 : tx.size ≤ (restL tx.data.toList).length + 1 := by
      rw [str_size rfl]
      unfold restL
      split
      · rename_i h; rw [h]; simp
      · omega
    omega
  have her0 : er = 0 := by rw [her, hE]
  subst her0
  have P1 := Lib.hid p1
  have P2 := Lib.hid p2
  have P3 := Lib.hid p3
  have Htz := Lib.hid htz
  clear htl p1 p2 p3 htz
  obtain ⟨q1, q2, q3, q4⟩ := wpar_back hP
  obtain ⟨sg, hsg⟩ : ∃ sg, sg = wparS x.data.toList := ⟨_, rfl⟩
  obtain ⟨m, hm⟩ : ∃ m, m = wparL x.data.toList := ⟨_, rfl⟩
  rw [← hsg, ← hm] at q3 q4
  rw [← hm] at q2
  have Q2 := Lib.hid (show m.length ≤ 20000 by omega)
  have Q3 := Lib.hid q3
  have Q4 := Lib.hid q4
  have Hsg := Lib.hid hsg.symm
  have Hm := Lib.hid hm.symm
  have Hpe := Lib.hid hP
  clear q1 q2 q3 q4 hsg hm hP
  have Ht := Lib.hid ht
  have Htx := Lib.hid htx
  have Her := Lib.hid her
  have Hn := Lib.hid nn
  have Hnr := Lib.hid hn
  have Hx := Lib.hid (show x.size ≤ 9223372036854775807 by omega)
  clear ht htx her nn hn hsm hE
  go_enter Tryz.func3, Tryz.ntmps3
  go_wp2_with fail
  refine (alive5 _).mono ?_
  rintro e w1 ⟨rfl, hb⟩
  replace a0 := keepC hb a0
  replace a1 := keepC hb a1
  replace uA := uA.below hb
  replace hB := from_ hB hb
  clear hb
  have htext := wtext_any (s := s) uA (by omega) (Ht.out.below hB)
  rw [show strV (wTxtT s l) = .string tx from by rw [Htx.out], ← Her.out] at htext
  have Htext := Lib.hid htext
  clear htext
  go_wp2_with fail
  refine (Htext.out).mono ?_
  rintro e w2 ⟨rfl, hb⟩
  replace a0 := keepC hb a0
  replace a1 := keepC hb a1
  replace uA := uA.below hb
  replace hB := from_ hB hb
  clear hb
  clear Htext
  go_wp2_with fail
  refine (wparse_at tx P1.out P2.out P3.out Htz.out).mono ?_
  rintro e w3 ⟨A3, c3, rfl, uB, hb⟩
  have hal : Below w3.heap.size w3 (w3.alloc (.cells #[.bool s, .slice A3 l.length c3] 25)) := (Below.refl _ _).alloc (Nat.le_refl _) _
  replace uB := uB.below hal
  obtain ⟨xB, yB, _, _, _⟩ := Box.new w3 (.bool s) (.slice A3 l.length c3) 25
  have hs := from_ hb hal
  replace a0 := keepC hs a0
  replace a1 := keepC hs a1
  replace uA := uA.below hs
  replace hB := from_ hB hs
  clear hb hal hs
  go_wp2_with fail
  refine (same_n uA uB).mono ?_
  rintro e w4 ⟨rfl, hb⟩
  replace a0 := keepC hb a0
  replace a1 := keepC hb a1
  replace xB := keepC hb xB
  replace yB := keepC hb yB
  replace uA := uA.below hb
  replace uB := uB.below hb
  replace hB := from_ hB hb
  clear hb
  clear xB yB uB
  go_wp2_with fail
  refine (wparse_at x Hpe.out Hsg.out Hm.out Hx.out).mono ?_
  rintro e w5 ⟨A5, c5, rfl, uP, hb⟩
  have hal : Below w5.heap.size w5 (w5.alloc (.cells #[.bool sg, .slice A5 m.length c5] 25)) := (Below.refl _ _).alloc (Nat.le_refl _) _
  replace uP := uP.below hal
  obtain ⟨xP, yP, _, _, _⟩ := Box.new w5 (.bool sg) (.slice A5 m.length c5) 25
  have hs := from_ hb hal
  replace a0 := keepC hs a0
  replace a1 := keepC hs a1
  replace uA := uA.below hs
  replace hB := from_ hB hs
  clear hb hal hs
  have htext := wtext_any (s := sg) uP Q2.out (Ht.out.below hB)
  rw [Q3.out, Q4.out, show strV x.data.toList = .string x from by show Value.string _ = Value.string x; rw [strB (s := x) rfl]] at htext
  have Htext := Lib.hid htext
  clear htext
  go_wp2_with fail
  refine (Htext.out).mono ?_
  rintro e w6 ⟨rfl, hb⟩
  replace a0 := keepC hb a0
  replace a1 := keepC hb a1
  replace xP := keepC hb xP
  replace yP := keepC hb yP
  replace uA := uA.below hb
  replace uP := uP.below hb
  replace hB := from_ hB hb
  clear hb
  clear Htext
  go_wp2_with fail
  refine (wof_nS Hn.out Hnr.out).mono ?_
  rintro e w7 ⟨A7, c7, rfl, uN, hb⟩
  replace a0 := keepC hb a0
  replace a1 := keepC hb a1
  replace xP := keepC hb xP
  replace yP := keepC hb yP
  replace uA := uA.below hb
  replace uP := uP.below hb
  replace hB := from_ hB hb
  clear hb
  go_wp2_with fail
  refine (wint_z (Hn.out.isZ uN) Hnr.out).mono ?_
  rintro e w8 ⟨rfl, hb⟩
  replace a0 := keepC hb a0
  replace a1 := keepC hb a1
  replace xP := keepC hb xP
  replace yP := keepC hb yP
  replace uA := uA.below hb
  replace uP := uP.below hb
  replace uN := uN.below hb
  replace hB := from_ hB hb
  clear hb
  go_wp2
  go_ret
  exact ⟨by first | rfl | trivial | simp, hB⟩

set_option maxRecDepth 100000 in
set_option maxHeartbeats 4000000 in
theorem lawWholeTexts {w : World} {a : Value} {s : Bool} {l : List Nat} {x : ByteArray} {n : Int} (ha : IsI w old a s l) (hs : x.size ≤ maxLen) (hn : -9223372036854775808 ≤ n ∧ n ≤ 9223372036854775807) (ht : Tab w) :
    Calls Tryz.prog 3 #[a, .string x, .int .i64 n] w fun e w' => e = .returned (.bool true) ∧ Below w.heap.size w w' := by
  by_cases h0 : l.length ≤ 50
  · by_cases h1 : x.size ≤ 1000
    · by_cases hE : wErrT s l = 0 <;> by_cases hP : wparE x.data.toList = 0
      · exact wtexts11 ha h0 h1 hn ht hE hP
      · exact wtexts10 ha h0 h1 hn ht hE hP
      · exact wtexts01 ha h0 h1 hn ht hE hP
      · exact wtexts00 ha h0 h1 hn ht hE hP
    · obtain ⟨_, rfl, A, ca, rfl, hu⟩ := ha
      have hB : Below w.heap.size w (w.alloc (.cells #[.bool s, .slice A l.length ca] 25)) := (Below.refl _ w).alloc (Nat.le_refl _) _
      obtain ⟨a0, a1, _, _, _⟩ := Box.new w (.bool s) (.slice A l.length ca) 25
      have hd1 : decide ((50 : Int) < (l.length : Int)) = false := decide_eq_false (by omega)
      have hd2 : decide ((1000 : Int) < (x.size : Int)) = true := decide_eq_true (by omega)
      go_enter Tryz.func3, Tryz.ntmps3
      go_wp2_with fail
      refine (alive5 _).mono ?_
      rintro e w1 ⟨rfl, hb⟩
      replace a0 := keepC hb a0
      replace a1 := keepC hb a1
      replace hB := from_ hB hb
      clear hb
      go_wp2
      go_ret
      exact ⟨rfl, hB⟩
  · obtain ⟨_, rfl, A, ca, rfl, hu⟩ := ha
    have hB : Below w.heap.size w (w.alloc (.cells #[.bool s, .slice A l.length ca] 25)) := (Below.refl _ w).alloc (Nat.le_refl _) _
    obtain ⟨a0, a1, _, _, _⟩ := Box.new w (.bool s) (.slice A l.length ca) 25
    have hd1 : decide ((50 : Int) < (l.length : Int)) = true := decide_eq_true (by omega)
    go_enter Tryz.func3, Tryz.ntmps3
    go_wp2_with fail
    refine (alive5 _).mono ?_
    rintro e w1 ⟨rfl, hb⟩
    replace a0 := keepC hb a0
    replace a1 := keepC hb a1
    replace hB := from_ hB hb
    clear hb
    go_wp2
    go_ret
    exact ⟨rfl, hB⟩

end Go.Proofs.YtdhknjflelkghaaGreatDoor
