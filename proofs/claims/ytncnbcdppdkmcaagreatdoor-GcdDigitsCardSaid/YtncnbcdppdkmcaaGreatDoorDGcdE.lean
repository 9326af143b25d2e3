/-
  facetroomlaw04.of, facetroomlaw04.alive: what they answer. The one premise: the table of powers of ten reads as it is laid. No conditions.
-/
import Derived.Test.YtncnbcdppdkmcaaGreatDoorDGcdB
import Derived.Test.YtncnbcdppdkmcaaGreatDoorDDigC
import Derived.Test.YtncnbcdppdkmcaaGreatDoorDRefI
import Derived.Test.YtncnbcdppdkmcaaGreatDoorDNatE
namespace Go.Proofs.YtncnbcdppdkmcaaGreatDoor
open Go.RowKit
set_option linter.unusedVariables false
set_option linter.unusedSimpArgs false

theorem keepA4 {W : World} {o : Obj} {g i : Nat} {v : Value} (h : W.cell? ⟨g, i, none⟩ = some v) : (W.alloc o).cell? ⟨g, i, none⟩ = some v := by
  have hl := lt_of_cell h
  exact (((Below.refl W.heap.size W).alloc (Nat.le_refl _) o).cell (p := ⟨g, i, none⟩) hl).trans h

set_option maxRecDepth 100000 in
set_option maxHeartbeats 2000000 in
theorem of4 {w : World} {a b g l : Nat} (ha : a < 18446744073709551616) (hb : b < 18446744073709551616) (hg : g < 18446744073709551616) (hl : l < 18446744073709551616) (h1 : Nat.gcd a b = g) (h2 : Nat.lcm a b = l) :
    Calls Tryz.prog 23 #[.int .u64 (a : Int), .int .u64 (b : Int), .int .u64 (g : Int), .int .u64 (l : Int)] w fun e w' => e = .returned (.bool true) ∧ Below w.heap.size w w' := by
  have qa : (limbs a).length ≤ 20000 := len_in 1 (by omega) (by omega)
  have qb : (limbs b).length ≤ 20000 := len_in 1 (by omega) (by omega)
  have H1 := Lib.hid h1
  have H2 := Lib.hid h2
  have Qa := Lib.hid qa
  have Qb := Lib.hid qb
  clear h1 h2 qa qb
  go_enter Tryz.func23, Tryz.ntmps23
  have Hbd := Lib.hid (And.intro ha (And.intro hb (And.intro hg hl)))
  clear ha hb hg hl
  go_wp2_with fail
  refine (of_any Hbd.out.1).mono ?_
  rintro e w1 ⟨xa, rfl, na, hb⟩
  have hs : Below w.heap.size w w1 := step (by first | exact Below.refl _ _ | go_grown) hb
  have hB := hs
  clear hb hs
  go_wp2_with fail
  refine (of_any Hbd.out.2.1).mono ?_
  rintro e w2 ⟨xb, rfl, nb, hb⟩
  have hs : Below w1.heap.size w1 w2 := step (by first | exact Below.refl _ _ | go_grown) hb
  replace na := na.below hs
  replace hB := from_ hB hs
  clear hb hs
  go_wp2_with fail
  refine (gcd_good (na.below (by first | exact Below.refl _ _ | go_grown)) (nb.below (by first | exact Below.refl _ _ | go_grown)) Qa.out Qb.out).mono ?_
  rintro e w3 ⟨x, rfl, nx, hb⟩
  have hs : Below w2.heap.size w2 w3 := step (by first | exact Below.refl _ _ | go_grown) hb
  replace na := na.below hs
  replace nb := nb.below hs
  replace hB := from_ hB hs
  clear hb hs
  go_wp2_with fail
  refine (of_any Hbd.out.1).mono ?_
  rintro e w4 ⟨xc, rfl, nc, hb⟩
  have hs : Below w3.heap.size w3 w4 := step (by first | exact Below.refl _ _ | go_grown) hb
  replace na := na.below hs
  replace nb := nb.below hs
  replace nx := nx.below hs
  replace hB := from_ hB hs
  clear hb hs
  go_wp2_with fail
  refine (of_any Hbd.out.2.1).mono ?_
  rintro e w5 ⟨xd, rfl, nd, hb⟩
  have hs : Below w4.heap.size w4 w5 := step (by first | exact Below.refl _ _ | go_grown) hb
  replace na := na.below hs
  replace nb := nb.below hs
  replace nx := nx.below hs
  replace nc := nc.below hs
  replace hB := from_ hB hs
  clear hb hs
  go_wp2_with fail
  refine (lcm_good (nc.below (by first | exact Below.refl _ _ | go_grown)) (nd.below (by first | exact Below.refl _ _ | go_grown)) Qa.out Qb.out).mono ?_
  rintro e w6 ⟨y, rfl, ny, hb⟩
  have hs : Below w5.heap.size w5 w6 := step (by first | exact Below.refl _ _ | go_grown) hb
  replace na := na.below hs
  replace nb := nb.below hs
  replace nx := nx.below hs
  replace nc := nc.below hs
  replace nd := nd.below hs
  replace hB := from_ hB hs
  clear hb hs
  go_wp2_with fail
  refine (of_any Hbd.out.2.2.1).mono ?_
  rintro e w7 ⟨xg, rfl, ng, hb⟩
  have hs : Below w6.heap.size w6 w7 := step (by first | exact Below.refl _ _ | go_grown) hb
  replace na := na.below hs
  replace nb := nb.below hs
  replace nx := nx.below hs
  replace nc := nc.below hs
  replace nd := nd.below hs
  replace ny := ny.below hs
  replace hB := from_ hB hs
  clear hb hs
  go_wp2_with fail
  refine (same_num (nx.below (by first | exact Below.refl _ _ | go_grown)) (ng.below (by first | exact Below.refl _ _ | go_grown)) H1.out).mono ?_
  rintro e w8 ⟨rfl, hb⟩
  have hs : Below w7.heap.size w7 w8 := step (by first | exact Below.refl _ _ | go_grown) hb
  replace na := na.below hs
  replace nb := nb.below hs
  replace nx := nx.below hs
  replace nc := nc.below hs
  replace nd := nd.below hs
  replace ny := ny.below hs
  replace ng := ng.below hs
  replace hB := from_ hB hs
  clear hb hs
  go_wp2_with fail
  refine (of_any Hbd.out.2.2.2).mono ?_
  rintro e w9 ⟨xl, rfl, nl, hb⟩
  have hs : Below w8.heap.size w8 w9 := step (by first | exact Below.refl _ _ | go_grown) hb
  replace na := na.below hs
  replace nb := nb.below hs
  replace nx := nx.below hs
  replace nc := nc.below hs
  replace nd := nd.below hs
  replace ny := ny.below hs
  replace ng := ng.below hs
  replace hB := from_ hB hs
  clear hb hs
  go_wp2_with fail
  refine (same_num (ny.below (by first | exact Below.refl _ _ | go_grown)) (nl.below (by first | exact Below.refl _ _ | go_grown)) H2.out).mono ?_
  rintro e w10 ⟨rfl, hb⟩
  have hs : Below w9.heap.size w9 w10 := step (by first | exact Below.refl _ _ | go_grown) hb
  replace na := na.below hs
  replace nb := nb.below hs
  replace nx := nx.below hs
  replace nc := nc.below hs
  replace nd := nd.below hs
  replace ny := ny.below hs
  replace ng := ng.below hs
  replace nl := nl.below hs
  replace hB := from_ hB hs
  clear hb hs
  go_wp2
  go_ret
  exact ⟨rfl, hB⟩

/-- Digits, with fuel. -/
def decF : Nat → Nat → List UInt8
  | 0, _ => []
  | f + 1, u => if u < 10 then [UInt8.ofNat (48 + u)] else decF f (u / 10) ++ [UInt8.ofNat (48 + u % 10)]
theorem decF_eq : ∀ (f u : Nat), u < 10 ^ (f + 1) → Lib.decDigits u = decF (f + 1) u
  | 0, u, h => by
    have h' : u < 10 := by simpa using h
    rw [decF, if_pos h', Lib.decDigits_one h']
  | f + 1, u, h => by
    by_cases hu : u < 10
    · rw [decF, if_pos hu, Lib.decDigits_one hu]
    · rw [Nat.pow_succ] at h
      rw [decF, if_neg hu, dec_big (by omega), decF_eq f (u / 10) (by omega)]

/-- The text of a number that lies in one or two words. -/
theorem text_lit {n : Nat} {s : List UInt8} (f : Nat) (h : n < 10 ^ (f + 1)) (hs : decF (f + 1) n = s) (h2 : size n ≤ 16384) (h4 : s.length ≤ 4096) : textE n = 0 ∧ textS n = s := by
  have e : Lib.decDigits n = s := by rw [decF_eq f n h, hs]
  have := text_few h2 (by rw [e]; exact h4)
  rwa [e] at this

set_option maxRecDepth 100000 in
set_option maxHeartbeats 2000000 in
theorem alive4 {w : World} (ht : Tab w) : Calls Tryz.prog 7 #[] w fun e w' => e = .returned (.bool true) ∧ Below w.heap.size w w' := by
  have hz : size 18446744073709551616 ≤ 16384 := by have : size 18446744073709551616 ≤ 65 := size_le_of (by omega); omega
  obtain ⟨t1, t2⟩ := text_lit (n := 18446744073709551616) (s := [49, 56, 52, 52, 54, 55, 52, 52, 48, 55, 51, 55, 48, 57, 53, 53, 49, 54, 49, 54]) 19 (by omega) (by decide +kernel) hz (by simp)
  have hv : val [0, 1] = 18446744073709551616 := rfl
  have e1 : errT [0, 1] = 0 := by unfold errT; rw [if_pos (show good [0, 1] = true from rfl), hv, t1]
  have e2 : txtT [0, 1] = [49, 56, 52, 52, 54, 55, 52, 52, 48, 55, 51, 55, 48, 57, 53, 53, 49, 54, 49, 54] := by unfold txtT; rw [if_pos (show good [0, 1] = true from rfl), hv, t2]
  have htx : ∀ w1 Z a, IsU w1 Z a [0, 1] → Tab w1 → Calls Tryz.prog 5 #[a] w1 fun e w' => e = .returned (.tuple #[.string ⟨#[49, 56, 52, 52, 54, 55, 52, 52, 48, 55, 51, 55, 48, 57, 53, 53, 49, 54, 49, 54]⟩, .int .i64 0]) ∧ Below w1.heap.size w1 w' := fun w1 Z a h h2 => by
    have := gtext_all h (by simp) h2
    rw [e1, e2] at this
    exact this
  have Htx := Lib.hid htx
  have Ht := Lib.hid ht
  clear hz t1 t2 hv e1 e2 htx ht
  go_enter Tryz.func7, Tryz.ntmps7
  go_wp2_with fail
  refine (Htx.out _ old _ (isU_two (x := 0) (y := 1) (by omega) (by omega) (by first | (refine cell_newest ?_ rfl; simp; done) | (simp; done) | (refine keepA (cell_newest ?_ rfl); simp; done)) (by first | (refine cell_newest ?_ rfl; simp; done) | (simp; done) | (refine keepA (cell_newest ?_ rfl); simp; done))) (Ht.out.below (by first | exact Below.refl _ _ | go_grown))).mono ?_
  rintro e w1 ⟨rfl, hb⟩
  have hs : Below w.heap.size w w1 := step (by first | exact Below.refl _ _ | go_grown) hb
  have hB := hs
  clear hb hs
  go_wp2_with fail
  refine (of4 (a := 12) (b := 18) (g := 6) (l := 36) (by omega) (by omega) (by omega) (by omega) (by decide) (by decide)).mono ?_
  rintro e w2 ⟨rfl, hb⟩
  have hs : Below w1.heap.size w1 w2 := step (by first | exact Below.refl _ _ | go_grown) hb
  replace hB := from_ hB hs
  clear hb hs
  go_wp2_with fail
  refine (of4 (a := 0) (b := 5) (g := 5) (l := 0) (by omega) (by omega) (by omega) (by omega) (by decide) (by decide)).mono ?_
  rintro e w3 ⟨rfl, hb⟩
  have hs : Below w2.heap.size w2 w3 := step (by first | exact Below.refl _ _ | go_grown) hb
  replace hB := from_ hB hs
  clear hb hs
  go_wp2_with fail
  refine (of4 (a := 0) (b := 0) (g := 0) (l := 0) (by omega) (by omega) (by omega) (by omega) (by decide) (by decide)).mono ?_
  rintro e w4 ⟨rfl, hb⟩
  have hs : Below w3.heap.size w3 w4 := step (by first | exact Below.refl _ _ | go_grown) hb
  replace hB := from_ hB hs
  clear hb hs
  go_wp2_with fail
  refine (of4 (a := 4) (b := 6) (g := 2) (l := 12) (by omega) (by omega) (by omega) (by omega) (by decide) (by decide)).mono ?_
  rintro e w5 ⟨rfl, hb⟩
  have hs : Below w4.heap.size w4 w5 := step (by first | exact Below.refl _ _ | go_grown) hb
  replace hB := from_ hB hs
  clear hb hs
  go_wp2
  go_ret
  exact ⟨rfl, hB⟩

end Go.Proofs.YtncnbcdppdkmcaaGreatDoor
