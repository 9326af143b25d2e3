/-
  facetroomlaw19.SatNear, walked. No conditions.
-/
import Derived.Laws.OwnMore
import Derived.Deep.RegionHeld3
import Derived.Test.YtjnjlgknmocdlaaPSatL
import Derived.Test.YtjnjlgknmocdlaaPWhJ
import Derived.Test.YtjnjlgknmocdlaaPClone
namespace Go.Proofs.Ytjnjlgknmocdlaa
open Go.RowKit
set_option linter.unusedVariables false
set_option linter.unusedSimpArgs false

theorem nearOk_sym {n : Nat} {i k : Int} : nearOk n i k ↔ nearOk n k i := by unfold nearOk; omega
theorem nearE_sym (ms : List Nat) (i k : Int) : nearE ms i k = nearE ms k i := by
  unfold nearE
  simp only [nearOk_sym (i := i) (k := k)]
theorem nearB_sym (ms : List Nat) (i k : Nat) : nearB ms i k = nearB ms k i := by
  unfold nearB
  congr 1
  funext j
  unfold nearHit
  rw [Nat.and_comm, Bool.and_comm (decide (j ≠ i))]
theorem nearA_sym (ms : List Nat) (i k : Int) : nearA ms i k = nearA ms k i := by
  unfold nearA
  rw [nearE_sym, nearB_sym]
theorem inB_and {x y : Nat} (hx : x < 18446744073709551616) : inB (x &&& y) x = true := by
  refine (inB_iff (Nat.lt_of_le_of_lt Nat.and_le_left hx) hx).2 fun i _ h => ?_
  rw [bitB_test, Nat.testBit_and, Bool.and_eq_true] at h
  rw [bitB_test]
  exact h.1
theorem near_two (x y : Nat) : nearE [x, y] 0 1 = 0 ∧ nearA [x, y] 0 1 = true := by
  have h1 : nearE [x, y] 0 1 = 0 := by
    unfold nearE
    rw [if_pos (by simp), if_pos (by unfold nearOk; simp)]
  refine ⟨h1, ?_⟩
  unfold nearA
  rw [h1]
  show (true && nearB [x, y] 0 1) = true
  rw [Bool.true_and]
  refine nearB_yes fun j hj => nearHit_at ?_
  simp at hj
  omega
theorem near_three {x y : Nat} (hx : x < 18446744073709551616) : nearE [x, y, x &&& y] 0 1 = 0 ∧ nearA [x, y, x &&& y] 0 1 = false := by
  have h1 : nearE [x, y, x &&& y] 0 1 = 0 := by
    unfold nearE
    rw [if_pos (by simp), if_pos (by unfold nearOk; simp)]
  refine ⟨h1, ?_⟩
  unfold nearA
  rw [h1]
  show (true && nearB [x, y, x &&& y] 0 1) = false
  rw [Bool.true_and]
  refine nearB_no (j := 2) (by simp) ?_
  rw [nearHit_else (by decide) (by decide)]
  exact inB_self (Nat.lt_of_le_of_lt Nat.and_le_left hx)
theorem near_more {ms : List Nat} {a b : Nat} (hs : Small ms) (ha : a < ms.length) (hb : b < ms.length) (hab : a ≠ b) (hl : ms.length ≤ 80) :
    nearE (ms.getD a 0 :: ms) ((a : Int) + 1) ((b : Int) + 1) = 0 ∧ nearA (ms.getD a 0 :: ms) ((a : Int) + 1) ((b : Int) + 1) = false := by
  have h1 : nearE (ms.getD a 0 :: ms) ((a : Int) + 1) ((b : Int) + 1) = 0 := by
    unfold nearE
    rw [if_pos (by simp; omega), if_pos (by unfold nearOk; simp; omega)]
  refine ⟨h1, ?_⟩
  unfold nearA
  rw [h1]
  have e1 : ((a : Int) + 1).toNat = a + 1 := by omega
  have e2 : ((b : Int) + 1).toNat = b + 1 := by omega
  rw [e1, e2]
  show (true && nearB (ms.getD a 0 :: ms) (a + 1) (b + 1)) = false
  rw [Bool.true_and]
  refine nearB_no (j := 0) (by simp) ?_
  rw [nearHit_else (by omega) (by omega)]
  have hx : ms.getD a 0 < 18446744073709551616 := by
    have e : ms.getD a 0 = ms[a] := by simp [List.getD, ha]
    rw [e]
    exact hs.get ha
  exact inB_and hx

set_option maxRecDepth 100000 in
set_option maxHeartbeats 4000000 in
theorem lawSatNear {w : World} {v : Value} {ms : List Nat} {i k : Int} (hm : IsU w old v ms) (hi : -9223372036854775808 ≤ i ∧ i ≤ 9223372036854775807) (hk : -9223372036854775808 ≤ k ∧ k ≤ 9223372036854775807) :
    Calls Try.prog 8 #[v, .int .i64 i, .int .i64 k] w fun e w' => e = .returned (.bool true) ∧ Below w.heap.size w w' := by
  obtain ⟨A, c, rfl, hu⟩ := hm
  have hlen := hu.len
  have HA := Lib.hid (alive19 w)
  by_cases h80 : ms.length ≤ 80
  · have m0 : decide ((80 : Int) < (ms.length : Int)) = false := decide_eq_false (by omega)
    have HN : Hid (∀ (w1 : World) (x y : Int), -9223372036854775808 ≤ x ∧ x ≤ 9223372036854775807 → -9223372036854775808 ≤ y ∧ y ≤ 9223372036854775807 → Below w.heap.size w w1 → Calls Try.prog 19 #[.slice A ms.length c, .int .i64 x, .int .i64 y] w1 fun e w' => e = .returned (.tuple #[.bool (nearA ms x y), .int .i64 (nearE ms x y)]) ∧ Below w1.heap.size w1 w') := fun w1 x y hx hy hb => satnear_any ⟨A, c, rfl, hu.below hb⟩ hx hy
    by_cases h1 : nearOk ms.length i k
    · have hE : nearE ms i k = 0 := by unfold nearE; rw [if_pos (by omega), if_pos h1]
      have hE2 : nearE ms k i = 0 := by rw [← nearE_sym]; exact hE
      have hN1 := fun (w1 : World) (h : Below w.heap.size w w1) => HN.out w1 i k hi hk h
      have hN2 := fun (w1 : World) (h : Below w.heap.size w w1) => HN.out w1 k i hk hi h
      rw [hE] at hN1
      rw [hE2, nearA_sym] at hN2
      obtain ⟨g1, g2, g3, g4, g5⟩ := h1
      obtain ⟨a, rfl⟩ : ∃ a : Nat, i = (a : Int) := ⟨i.toNat, by omega⟩
      obtain ⟨b, rfl⟩ : ∃ b : Nat, k = (b : Int) := ⟨k.toNat, by omega⟩
      have ga : a < ms.length := by omega
      have gb : b < ms.length := by omega
      obtain ⟨bl, o, rfl, hbl, x1, y1⟩ := hu.getD ga
      obtain ⟨_, _, e, _, x2, y2⟩ := hu.getD gb
      cases e
      have hmo := near_more hu.small ga gb (by omega) h80
      have hsm := hu.small
      have hand := u64_and_nat (ms.getD a 0) (ms.getD b 0) y1 y2
      have H2 := Lib.hid (near_two (ms.getD a 0) (ms.getD b 0))
      have H3 := Lib.hid (near_three (x := ms.getD a 0) (y := ms.getD b 0) y1)
      have HS : Hid (Small [ms.getD a 0, ms.getD b 0] ∧ Small [ms.getD a 0, ms.getD b 0, ms.getD a 0 &&& ms.getD b 0] ∧ Small (ms.getD a 0 :: ms)) := by
        have hz := Nat.lt_of_le_of_lt (Nat.and_le_left (n := ms.getD a 0) (m := ms.getD b 0)) y1
        refine ⟨fun x hx => ?_, fun x hx => ?_, fun x hx => ?_⟩
        · simp only [List.mem_cons, List.not_mem_nil, or_false] at hx
          rcases hx with rfl | rfl
          · exact y1
          · exact y2
        · simp only [List.mem_cons, List.not_mem_nil, or_false] at hx
          rcases hx with rfl | rfl | rfl
          · exact y1
          · exact y2
          · exact hz
        · rcases List.mem_cons.1 hx with rfl | hx
          · exact y1
          · exact hsm x hx
      have HC2 : Hid (∀ (w1 : World) (g : Nat), w1.heap.size = g → Calls Try.prog 19 #[.slice (some ⟨g, 0, none⟩) 2 2, .int .i64 0, .int .i64 1] (w1.alloc (.cells #[.int .u64 (ms.getD a 0 : Int), .int .u64 (ms.getD b 0 : Int)] 34)).drew fun e w' => e = .returned (.tuple #[.bool true, .int .i64 0]) ∧ Below w1.heap.size w1 w') := fun w1 g hg => by
        subst hg
        have h := satnear_any (i := 0) (k := 1) ((isU_lits w1 [ms.getD a 0, ms.getD b 0] 34 HS.out.1 (by simp)).below ((Below.refl _ _).drew)) (by omega) (by omega)
        rw [H2.out.1, H2.out.2] at h
        exact h.mono fun e w' q => ⟨q.1, from_ (((Below.refl _ _).alloc (Nat.le_refl _) _).drew) q.2⟩
      have HC3 : Hid (∀ (w1 : World) (g : Nat), w1.heap.size = g → Calls Try.prog 19 #[.slice (some ⟨g, 0, none⟩) 3 3, .int .i64 0, .int .i64 1] (w1.alloc (.cells #[.int .u64 (ms.getD a 0 : Int), .int .u64 (ms.getD b 0 : Int), .int .u64 ((ms.getD a 0 &&& ms.getD b 0 : Nat) : Int)] 34)).drew fun e w' => e = .returned (.tuple #[.bool false, .int .i64 0]) ∧ Below w1.heap.size w1 w') := fun w1 g hg => by
        subst hg
        have h := satnear_any (i := 0) (k := 1) ((isU_lits w1 [ms.getD a 0, ms.getD b 0, ms.getD a 0 &&& ms.getD b 0] 34 HS.out.2.1 (by simp)).below ((Below.refl _ _).drew)) (by omega) (by omega)
        rw [H3.out.1, H3.out.2] at h
        exact h.mono fun e w' q => ⟨q.1, from_ (((Below.refl _ _).alloc (Nat.le_refl _) _).drew) q.2⟩
      have HM := Lib.hid hmo
      have HU := Lib.hid hu
      have HN1 := Lib.hid hN1
      have HN2 := Lib.hid hN2
      clear hN1 hN2 HN hE hE2 g1 g2 g3 g4 g5 hmo hu hsm m0
      have m0 : decide ((80 : Int) < (ms.length : Int)) = false := decide_eq_false (by omega)
      generalize nearA ms (a : Int) (b : Int) = NA at *
      generalize ms.getD a 0 &&& ms.getD b 0 = z at *
      generalize ms.getD a 0 = xa at *
      generalize ms.getD b 0 = xb at *
      obtain ⟨i0, hif, hz0, hz1, hz2⟩ := info_parts Try.info34
      have hnn : (NA == NA) = true := beq_self_eq_true _
      go_enter Try.func8, Try.ntmps8
      go_wp2_with fail
      refine HA.out.mono ?_
      rintro e w1 ⟨rfl, hB⟩
      go_wp2_with fail
      refine (HN1.out _ hB).mono ?_
      rintro e w2 ⟨rfl, hb⟩
      replace hB := from_ hB hb
      clear hb
      go_wp2_with fail
      refine (HN2.out _ hB).mono ?_
      rintro e w3 ⟨rfl, hb⟩
      replace hB := from_ hB hb
      clear hb
      have x3 := keepC hB x1
      have x4 := keepC hB x2
      have HB3 := Lib.hid hB
      have hal3 : Below w3.heap.size w3 (w3.alloc (.cells #[.int .u64 (xa : Int), .int .u64 (xb : Int)] 34)).drew := ((Below.refl _ _).alloc (Nat.le_refl _) _).drew
      have s0 := (show w3.drew.cell? ⟨bl, o + a, none⟩ = _ from x3)
      have s1 := (show w3.drew.cell? ⟨bl, o + b, none⟩ = _ from x4)
      have sa0 := keepC hal3 x3
      have sa1 := keepC hal3 x4
      clear hB hal3
      go_wp2
      go_region_held3 (fun w' => w'.cell? ⟨bl, o + a, none⟩ = some (.int .u64 (xa : Int)) ∧ w'.cell? ⟨bl, o + b, none⟩ = some (.int .u64 (xb : Int)))
        (first
          | (go_keep; done)
          | exact ⟨sa0, sa1⟩
          | exact ⟨t0, t1⟩)
        ((go_at_call 19; with_reducible refine (HC2.out w3 _ rfl).mono ?_; rintro e w4 ⟨rfl, hb4⟩; have t0 := keepC hb4 x3; have t1 := keepC hb4 x4))
      all_goals
        have hB4 := from_ HB3.out hb4
        clear x3 x4 s0 s1 sa0 sa1
        have HB4 := Lib.hid hB4
        have hal4 : Below w4.heap.size w4 (w4.alloc (.cells #[.int .u64 (xa : Int), .int .u64 (xb : Int), .int .u64 (z : Int)] 34)).drew := ((Below.refl _ _).alloc (Nat.le_refl _) _).drew
        have s0 := (show w4.drew.cell? ⟨bl, o + a, none⟩ = _ from t0)
        have s1 := (show w4.drew.cell? ⟨bl, o + b, none⟩ = _ from t1)
        have sa0 := keepC hal4 t0
        have sa1 := keepC hal4 t1
        clear hB4 hal4 hb4
        go_wp2
        go_region_held3 (fun w' => w'.cell? ⟨bl, o + a, none⟩ = some (.int .u64 (xa : Int)) ∧ w'.cell? ⟨bl, o + b, none⟩ = some (.int .u64 (xb : Int)))
          (first
            | (go_keep; done)
            | exact ⟨sa0, sa1⟩
            | exact ⟨t2, t3⟩)
          ((go_at_call 19; with_reducible refine (HC3.out w4 _ rfl).mono ?_; rintro e w5 ⟨rfl, hb5⟩; have t2 := keepC hb5 t0; have t3 := keepC hb5 t1))
        all_goals
          have hB5 := from_ HB4.out hb5
          have hu5 := (HU.out.below hB5).below ((Below.refl _ _).alloc (Nat.le_refl _) (.cells #[.int .u64 (xa : Int)] 34))
          have hown := World.ownsRow_lit (base := w.heap.size) (e := 34) (size := 1) w5 #[.int .u64 (xa : Int)] 1 hB5.size (by unfold maxLen; omega) rfl
          clear t0 t1 t3 s0 s1 sa0 sa1 hb5
          go_wp2_with (at_builtin; go_loud (refine wpList_app _ rfl _ _ 22 rfl w.heap.size 34 i0 Try.underlying22 hif hz0 hz1 hz2 _ _ _ rfl hown rfl rfl hu5 (by omega) (by have := hB5.size; simp; omega) ?_); intro v' w6 hown' hgrow; obtain ⟨A2, c2, rfl⟩ := own_shape hown')
          have hB6 : Below w.heap.size w w6 := (hB5.alloc hB5.size _).grown hgrow (by have := hB5.size; simp; omega) (own_nil_of hown)
          have hmore : IsU w6 old (.slice A2 (1 + ms.length) c2) (xa :: ms) := isU_own (by simpa using hown') HS.out.2.2
          have hnm := satnear_any (i := (a : Int) + 1) (k := (b : Int) + 1) hmore (by omega) (by omega)
          rw [HM.out.1, HM.out.2] at hnm
          have Hnm := Lib.hid hnm
          clear hmore hnm hown hown' hgrow hu5 t2
          go_wp2_with fail
          refine Hnm.out.mono ?_
          rintro e w7 ⟨rfl, hb7⟩
          go_wp2
          go_ret
          exact ⟨by first | rfl | trivial, from_ hB6 hb7⟩
    · have hE : nearE ms i k = 2 := by unfold nearE; rw [if_pos (by omega), if_neg h1]
      have hA : nearA ms i k = false := by unfold nearA; rw [hE]; rfl
      have hN1 := fun (w1 : World) (h : Below w.heap.size w w1) => HN.out w1 i k hi hk h
      have hN2 := fun (w1 : World) (h : Below w.heap.size w w1) => HN.out w1 k i hk hi h
      rw [hE, hA] at hN1
      rw [nearE_sym, nearA_sym, hE, hA] at hN2
      have HN1 := Lib.hid hN1
      have HN2 := Lib.hid hN2
      clear hN1 hN2 HN hE hA h1 hu h80
      generalize ms.length = L at *
      go_enter Try.func8, Try.ntmps8
      go_wp2_with fail
      refine HA.out.mono ?_
      rintro e w1 ⟨rfl, hB⟩
      go_wp2_with fail
      refine (HN1.out _ hB).mono ?_
      rintro e w2 ⟨rfl, hb⟩
      replace hB := from_ hB hb
      clear hb
      go_wp2_with fail
      refine (HN2.out _ hB).mono ?_
      rintro e w3 ⟨rfl, hb⟩
      replace hB := from_ hB hb
      clear hb
      go_wp2
      go_ret
      exact ⟨by first | rfl | trivial, hB⟩
  · have m0 : decide ((80 : Int) < (ms.length : Int)) = true := decide_eq_true (by omega)
    clear hu
    generalize ms.length = L at *
    go_enter Try.func8, Try.ntmps8
    go_wp2_with fail
    refine HA.out.mono ?_
    rintro e w1 ⟨rfl, hB⟩
    go_wp2
    go_ret
    exact ⟨by first | rfl | trivial, hB⟩

end Go.Proofs.Ytjnjlgknmocdlaa
