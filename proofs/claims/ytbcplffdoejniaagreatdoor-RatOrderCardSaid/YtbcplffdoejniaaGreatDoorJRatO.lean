/-
  Fractions: rat.Text; facetroomlaw06.of, tells, alive. The one premise: the table of powers of ten reads as it is laid.
  Fractions: facetroomref06.Great; rat.Check by name; three parameters' boxes. No conditions but bounds on lengths.
  Fractions: the plain law of RatOrder. No conditions.
-/
import Derived.Test.YtbcplffdoejniaaGreatDoorJRatL
import Derived.Test.YtbcplffdoejniaaGreatDoorJWhT
import Derived.Test.YtbcplffdoejniaaGreatDoorJGcdE
import Derived.Test.YtbcplffdoejniaaGreatDoorJRatC
import Derived.Test.YtbcplffdoejniaaGreatDoorJFrameQ
namespace Go.Proofs.YtbcplffdoejniaaGreatDoor
open Go.RowKit
set_option linter.unusedVariables false
set_option linter.unusedSimpArgs false

theorem wTxtT_len (s : Bool) (l : List Nat) : (wTxtT s l).length ≤ 4097 := by
  have := txtT_len l
  unfold wTxtT
  split
  · split
    · simp; omega
    · omega
  · simp

set_option maxRecDepth 100000 in
set_option maxHeartbeats 2000000 in
theorem rtext_q {w : World} {Z1 Z2 : Zone} {s : Bool} {l k : List Nat} {A B : Option Addr} {a b : Nat} {p : Rat} {str : List UInt8} (hp : NmQ p s l k) (e1 : wErrT s l = 0) (e2 : errT k = 0) (hst : wTxtT s l ++ (if k = [1] then [] else 47 :: txtT k) = str) (u1 : U64s w Z1 A a l) (u2 : U64s w Z2 B b k) (q1 : l.length ≤ 2000) (q2 : k.length ≤ 2000) (ht : Tab w) :
    Calls Tryz.prog 50 #[.agg #[.bool s, .slice A l.length a, .slice B k.length b]] w fun e w' => e = .returned (.tuple #[strV str, .int .i64 0]) ∧ Below w.heap.size w w' := by
  have hB := box_rat w (.bool s) (.slice A l.length a) (.slice B k.length b)
  obtain ⟨b0, b1, b2, _, _, _, _⟩ := Box3.new w (.bool s) (.slice A l.length a) (.slice B k.length b) 28
  have hck := ratcheck_any (s := s) (u1.below hB) (u2.below hB) (by omega) (by omega)
  have e0 : errF s l k = 0 := by unfold errF; rw [if_pos hp.ok]
  rw [e0] at hck
  obtain ⟨x, hx⟩ : ∃ x : ByteArray, x = ⟨(wTxtT s l).toArray⟩ := ⟨_, rfl⟩
  obtain ⟨y, hy⟩ : ∃ y : ByteArray, y = ⟨(txtT k).toArray⟩ := ⟨_, rfl⟩
  have hxs : x.size ≤ 4097 := by have := wTxtT_len s l; rw [hx]; simpa [ByteArray.size] using this
  have hys : y.size ≤ 4096 := by have := txtT_len k; rw [hy]; simpa [ByteArray.size] using this
  have HW : Hid (∀ w1, Below w.heap.size w w1 → Calls Tryz.prog 59 #[.agg #[.bool s, .slice A l.length a]] w1 fun e w' => e = .returned (.tuple #[.string x, .int .i64 0]) ∧ Below w1.heap.size w1 w') := fun w1 h => by
    have := wtext_any (s := s) (u1.below h) (by omega) (ht.below h)
    rw [e1] at this
    rw [hx]
    exact this
  have HT : Hid (∀ w1, Below w.heap.size w w1 → Calls Tryz.prog 60 #[.slice B k.length b] w1 fun e w' => e = .returned (.tuple #[.string y, .int .i64 0]) ∧ Below w1.heap.size w1 w') := fun w1 h => by
    have := gtext_all (l := k) ⟨B, b, rfl, u2.below h⟩ (by omega) (ht.below h)
    rw [e2] at this
    rw [hy]
    exact this
  obtain ⟨E, hE⟩ : ∃ E, E = decide (k = [1]) := ⟨_, rfl⟩
  have HQ : Hid (∀ w1, Below w.heap.size w w1 → Calls Tryz.prog 33 #[.slice B k.length b, .slice (some ⟨w1.heap.size, 0, none⟩) 1 1] (w1.alloc (.cells #[.int .u64 1] 55)) fun e w' => e = .returned (.bool E) ∧ Below (w1.alloc (.cells #[.int .u64 1] 55)).heap.size (w1.alloc (.cells #[.int .u64 1] 55)) w') := fun w1 h => by
    have h2 : IsU (w1.alloc (.cells #[.int .u64 1] 55)) old (.slice (some ⟨w1.heap.size, 0, none⟩) 1 1) [1] := isU_one (x := 1) (by omega) (by refine cell_newest ?_ rfl; simp)
    have h3 := equal_dec (IsU.below ⟨B, b, rfl, u2.below h⟩ ((Below.refl _ w1).alloc (Nat.le_refl _) _)) h2
    rwa [← hE] at h3
  have hres : strV str = if E = true then .string x else .string (x ++ ⟨#[47]⟩ ++ y) := by
    rw [← hst, hE, hx, hy]
    by_cases h : k = [1]
    · rw [if_pos h, decide_eq_true h, if_pos rfl, List.append_nil]
    · rw [if_neg h, decide_eq_false h, if_neg (by simp)]
      refine congrArg Value.string ?_
      apply ByteArray.ext
      simp
  have HR := Lib.hid hres
  have HCK := Lib.hid hck
  clear hck e0 e1 e2 hst hx hy hE u1 u2 q1 q2 hp ht hres
  generalize l.length = L1 at *
  generalize k.length = L2 at *
  cases E
  · go_enter Tryz.func50, Tryz.ntmps50
    go_wp2_with fail
    refine HCK.out.mono ?_
    rintro e w1 ⟨rfl, hc1⟩
    have hB1 := from_ hB hc1
    replace b0 := keepC hc1 b0
    replace b1 := keepC hc1 b1
    replace b2 := keepC hc1 b2
    go_wp2_with fail
    refine (HW.out _ hB1).mono ?_
    rintro e w2 ⟨rfl, hc2⟩
    have hB2 := from_ hB1 hc2
    replace b0 := keepC hc2 b0
    replace b1 := keepC hc2 b1
    replace b2 := keepC hc2 b2
    go_wp2_with fail
    refine (HQ.out _ hB2).mono ?_
    rintro e w3 ⟨rfl, hc3⟩
    have hs3 := step (w := w2) (by go_grown) hc3
    have hB3 := from_ hB2 hs3
    replace b0 := keepC hs3 b0
    replace b1 := keepC hs3 b1
    replace b2 := keepC hs3 b2
    go_wp2_with fail
    refine (HT.out _ hB3).mono ?_
    rintro e w4 ⟨rfl, hc4⟩
    have hB4 := from_ hB3 hc4
    go_wp2
    go_ret2
    exact ⟨by rw [HR.out]; rfl, hB4⟩
  · go_enter Tryz.func50, Tryz.ntmps50
    go_wp2_with fail
    refine HCK.out.mono ?_
    rintro e w1 ⟨rfl, hc1⟩
    have hB1 := from_ hB hc1
    replace b0 := keepC hc1 b0
    replace b1 := keepC hc1 b1
    replace b2 := keepC hc1 b2
    go_wp2_with fail
    refine (HW.out _ hB1).mono ?_
    rintro e w2 ⟨rfl, hc2⟩
    have hB2 := from_ hB1 hc2
    replace b0 := keepC hc2 b0
    replace b1 := keepC hc2 b1
    replace b2 := keepC hc2 b2
    go_wp2_with fail
    refine (HQ.out _ hB2).mono ?_
    rintro e w3 ⟨rfl, hc3⟩
    have hs3 := step (w := w2) (by go_grown) hc3
    have hB3 := from_ hB2 hs3
    go_wp2
    go_ret2
    exact ⟨by rw [HR.out]; rfl, hB3⟩

theorem wof_n6 {w : World} {n : Int} {s : Bool} {l : List Nat} (h : Nm n s l) (hn : -9223372036854775808 ≤ n ∧ n ≤ 9223372036854775807) :
    Calls Tryz.prog 20 #[.int .i64 n] w fun e w' => ∃ A c, e = .returned (.agg #[.bool s, .slice A l.length c]) ∧ U64s w' (new w.heap.size) A c l ∧ Below w.heap.size w w' := by
  refine (wof_any hn).mono ?_
  rintro e w' ⟨v, rfl, hv, hb⟩
  obtain ⟨A, c, rfl, h1⟩ := h.of hv
  exact ⟨A, c, rfl, h1, hb⟩

set_option maxRecDepth 100000 in
set_option maxHeartbeats 2000000 in
theorem of6_q {w : World} {x y : Int} {q : Rat} {r : Bool} {la ld : List Nat} (hx : -9223372036854775808 ≤ x ∧ x ≤ 9223372036854775807) (hy : -9223372036854775808 ≤ y ∧ y ≤ 9223372036854775807) (hy0 : y ≠ 0) (hz : NmQ q r la ld) (hq : Rat.divInt x y = q) :
    Calls Tryz.prog 21 #[.int .i64 x, .int .i64 y] w fun e w' => ∃ An cn Ad cd, e = .returned (.agg #[.bool r, .slice An la.length cn, .slice Ad ld.length cd]) ∧ U64s w' (new w.heap.size) An cn la ∧ U64s w' (new w.heap.size) Ad cd ld ∧ Below w.heap.size w w' := by
  have hB0 := box_rat w (.bool false) (.slice none 0 0) (.slice none 0 0)
  have bR := Box3.new w (.bool false) (.slice none 0 0) (.slice none 0 0) 28
  obtain ⟨r1, m1, n1⟩ : ∃ s l, Nm x s l := ⟨_, _, Nm.mk' _⟩
  obtain ⟨r2, m2, n2⟩ : ∃ s l, Nm y s l := ⟨_, _, Nm.mk' _⟩
  have k1 : m1.length ≤ 10000 := by rw [n1.2]; exact len_in 1 (by omega) (by omega)
  have k2 : m2.length ≤ 10000 := by rw [n2.2]; exact len_in 1 (by omega) (by omega)
  have C1 := Lib.hid (fun (W : World) => wof_n6 (w := W) n1 hx)
  have C2 := Lib.hid (fun (W : World) => wof_n6 (w := W) n2 hy)
  have CO := Lib.hid (fun (W : World) (Y1 Y2 : Zone) (A1 A2 : Option Addr) (c1 c2 : Nat) (h1 : U64s W Y1 A1 c1 m1) (h2 : U64s W Y2 A2 c2 m2) => ratof_q n1 n2 hy0 hz hq k1 k2 h1 h2)
  have HB0 := Lib.hid hB0
  have BR := Lib.hid bR
  clear hx hy hy0 hz hq n1 n2 k1 k2 hB0 bR
  go_enter Tryz.func21, Tryz.ntmps21
  go_wp2_with fail
  refine (C1.out _).mono ?_
  rintro e w1 ⟨A1, c1, rfl, v1, hc1⟩
  go_wp2_with fail
  refine (C2.out _).mono ?_
  rintro e w2 ⟨A2, c2, rfl, v2, hc2⟩
  go_wp2_with fail
  refine (CO.out _ _ _ _ _ _ _ (v1.below hc2) v2).mono ?_
  rintro e w3 ⟨An, cn, Ad, cd, rfl, v3, v4, hc3⟩
  have hB3 := from_ (from_ (from_ HB0.out hc1) hc2) hc3
  have bRw := ((BR.out.below hc1).below hc2).below hc3
  have hlt2 : w.heap.size < w2.heap.size := ((BR.out.below hc1).below hc2).lt
  have hP := bRw.put hB3 (Nat.le_refl _) (.bool r) (.slice An la.length cn) (.slice Ad ld.length cd)
  have hal : Below _ _ (World.alloc _ (.cells #[.bool r, .slice An la.length cn, .slice Ad ld.length cd] 28)) := (Below.refl _ (((w3.setCell ⟨w.heap.size, 0, none⟩ (.bool r)).setCell ⟨w.heap.size, 1, none⟩ (.slice An la.length cn)).setCell ⟨w.heap.size, 2, none⟩ (.slice Ad ld.length cd))).alloc (Nat.le_refl _) (.cells #[.bool r, .slice An la.length cn, .slice Ad ld.length cd] 28)
  have Hn := Lib.hid (((hP.keep (fun (h : w2.heap.size ≤ w.heap.size) => by omega) v3).below hal).mono (Y := new w.heap.size) (new_le (by omega)))
  have Hd := Lib.hid (((hP.keep (fun (h : w2.heap.size ≤ w.heap.size) => by omega) v4).below hal).mono (Y := new w.heap.size) (new_le (by omega)))
  have Hbl := Lib.hid (from_ hP.bel hal)
  have z0 := Lib.hid (keepC hal hP.c0)
  have z1 := Lib.hid (keepC hal hP.c1)
  have z2 := Lib.hid (keepC hal hP.c2)
  have hlt3 : w.heap.size < w3.heap.size := bRw.lt
  have hne : ¬ (w3.heap.size = w.heap.size) := by omega
  have hne2 : ¬ (w.heap.size = w3.heap.size) := by omega
  obtain ⟨q0, q1, q2, f0, f1, f2, _⟩ := bRw
  clear hP hal v1 v2 v3 v4 hB3 hc1 hc2 hc3
  go_wp2
  refine bodyPost_ret (res_rat rfl _ w.heap.size rfl z0.out z1.out z2.out) rfl ?_
  exact ⟨_, _, _, _, rfl, Hn.out, Hd.out, Hbl.out⟩

set_option maxRecDepth 100000 in
set_option maxHeartbeats 2000000 in
theorem tells_q {w : World} {Z1 Z2 : Zone} {s : Bool} {l k : List Nat} {A B : Option Addr} {a b : Nat} {p : Rat} {str : List UInt8} {want : ByteArray} (hw : want = ⟨str.toArray⟩) (hp : NmQ p s l k) (e1 : wErrT s l = 0) (e2 : errT k = 0) (hst : wTxtT s l ++ (if k = [1] then [] else 47 :: txtT k) = str) (u1 : U64s w Z1 A a l) (u2 : U64s w Z2 B b k) (q1 : l.length ≤ 2000) (q2 : k.length ≤ 2000) (ht : Tab w) :
    Calls Tryz.prog 22 #[.agg #[.bool s, .slice A l.length a, .slice B k.length b], .int .i64 0, .string want] w fun e w' => e = .returned (.bool true) ∧ Below w.heap.size w w' := by
  have hB := box_rat w (.bool s) (.slice A l.length a) (.slice B k.length b)
  obtain ⟨b0, b1, b2, _, _, _, _⟩ := Box3.new w (.bool s) (.slice A l.length a) (.slice B k.length b) 28
  have htx := rtext_q hp e1 e2 hst (u1.below hB) (u2.below hB) q1 q2 (ht.below hB)
  rw [show strV str = .string want by rw [hw]] at htx
  have Htx := Lib.hid htx
  clear htx hw hst e1 e2 u1 u2 hp ht q1 q2
  generalize l.length = L1 at *
  generalize k.length = L2 at *
  go_enter Tryz.func22, Tryz.ntmps22
  go_wp2_with fail
  refine Htx.out.mono ?_
  rintro e w1 ⟨rfl, hc1⟩
  have hB1 := from_ hB hc1
  go_wp2
  go_ret
  exact ⟨by simp, hB1⟩

theorem txt1 {n : Nat} (h0 : 0 < n) (h : n < 10) : errT [n] = 0 ∧ txtT [n] = [UInt8.ofNat (48 + n)] := by
  have hg : good [n] = true := by simp [good]; omega
  have hv : val [n] = n := by simp [val]
  have hs : size n ≤ 16384 := by have : size n ≤ 4 := size_le_of (by omega); omega
  have e : Lib.decDigits n = [UInt8.ofNat (48 + n)] := Lib.decDigits_one h
  obtain ⟨t1, t2⟩ := text_few hs (by rw [e]; simp)
  exact ⟨by unfold errT; rw [if_pos hg, hv, t1], by unfold txtT; rw [if_pos hg, hv, t2, e]⟩
theorem wtxt1 {s : Bool} {n : Nat} (h0 : 0 < n) (h : n < 10) : wErrT s [n] = 0 ∧ wTxtT s [n] = (if s = true then [45, UInt8.ofNat (48 + n)] else [UInt8.ofNat (48 + n)]) := by
  obtain ⟨t1, t2⟩ := txt1 h0 h
  have hg : good [n] = true := by simp [good]; omega
  have ho : okI s [n] = true := by unfold okI; rw [hg]; cases s <;> rfl
  refine ⟨by unfold wErrT; rw [if_pos ho, t1], ?_⟩
  unfold wTxtT
  rw [if_pos ho, t1, t2]
  cases s <;> simp

set_option maxRecDepth 100000 in
set_option maxHeartbeats 2000000 in
theorem alive6 {w : World} (ht : Tab w) : Calls Tryz.prog 7 #[] w fun e w' => e = .returned (.bool true) ∧ Below w.heap.size w w' := by
  have n1 : NmQ (Rat.divInt 6 (-4)) true [3] [2] := ⟨by decide +kernel, by decide +kernel, by decide +kernel⟩
  have n2 : NmQ (Rat.divInt 1 2) false [1] [2] := ⟨by decide +kernel, by decide +kernel, by decide +kernel⟩
  have n3 : NmQ (Rat.divInt 1 3) false [1] [3] := ⟨by decide +kernel, by decide +kernel, by decide +kernel⟩
  have n4 : NmQ (Rat.divInt 1 2 + Rat.divInt 1 3) false [5] [6] := ⟨by decide +kernel, by decide +kernel, by decide +kernel⟩
  have n5 : NmQ (Rat.divInt (-1) 4) true [1] [4] := ⟨by decide +kernel, by decide +kernel, by decide +kernel⟩
  have n6 : NmQ (Rat.divInt 1 2 / Rat.divInt (-1) 4) true [2] [1] := ⟨by decide +kernel, by decide +kernel, by decide +kernel⟩
  have m5 : (Rat.divInt (-1) 4).num ≠ 0 := by decide +kernel
  have a6 : Nm 6 false [6] := ⟨rfl, rfl⟩
  have a4 : Nm (-4) true [4] := ⟨rfl, rfl⟩
  have W3 := wtxt1 (s := true) (n := 3) (by omega) (by omega)
  have W5 := wtxt1 (s := false) (n := 5) (by omega) (by omega)
  have W2 := wtxt1 (s := true) (n := 2) (by omega) (by omega)
  have T2 := txt1 (n := 2) (by omega) (by omega)
  have T6 := txt1 (n := 6) (by omega) (by omega)
  have T1 := txt1 (n := 1) (by omega) (by omega)
  have C6 : Hid (∀ (W : World), Calls Tryz.prog 20 #[.int .i64 6] W fun e w' => ∃ A c, e = .returned (.agg #[.bool false, .slice A 1 c]) ∧ U64s w' (new W.heap.size) A c [6] ∧ Below W.heap.size W w') := fun W => wof_n6 (w := W) a6 (by omega)
  have C4 : Hid (∀ (W : World), Calls Tryz.prog 20 #[.int .i64 (-4)] W fun e w' => ∃ A c, e = .returned (.agg #[.bool true, .slice A 1 c]) ∧ U64s w' (new W.heap.size) A c [4] ∧ Below W.heap.size W w') := fun W => wof_n6 (w := W) a4 (by omega)
  have CO : Hid (∀ (W : World) (Y1 Y2 : Zone) (A1 A2 : Option Addr) (c1 c2 : Nat), U64s W Y1 A1 c1 [6] → U64s W Y2 A2 c2 [4] → Calls Tryz.prog 8 #[.agg #[.bool false, .slice A1 1 c1], .agg #[.bool true, .slice A2 1 c2]] W fun e w' => ∃ An cn Ad cd, e = .returned (.tuple #[.agg #[.bool true, .slice An 1 cn, .slice Ad 1 cd], .int .i64 0]) ∧ U64s w' (new W.heap.size) An cn [3] ∧ U64s w' (new W.heap.size) Ad cd [2] ∧ Below W.heap.size W w') := fun W Y1 Y2 A1 A2 c1 c2 h1 h2 => ratof_q a6 a4 (by omega) n1 rfl (by simp) (by simp) h1 h2
  have F2 : Hid (∀ (W : World), Calls Tryz.prog 21 #[.int .i64 1, .int .i64 2] W fun e w' => ∃ An cn Ad cd, e = .returned (.agg #[.bool false, .slice An 1 cn, .slice Ad 1 cd]) ∧ U64s w' (new W.heap.size) An cn [1] ∧ U64s w' (new W.heap.size) Ad cd [2] ∧ Below W.heap.size W w') := fun W => of6_q (w := W) (x := 1) (y := 2) (by omega) (by omega) (by omega) n2 rfl
  have F3 : Hid (∀ (W : World), Calls Tryz.prog 21 #[.int .i64 1, .int .i64 3] W fun e w' => ∃ An cn Ad cd, e = .returned (.agg #[.bool false, .slice An 1 cn, .slice Ad 1 cd]) ∧ U64s w' (new W.heap.size) An cn [1] ∧ U64s w' (new W.heap.size) Ad cd [3] ∧ Below W.heap.size W w') := fun W => of6_q (w := W) (x := 1) (y := 3) (by omega) (by omega) (by omega) n3 rfl
  have F5 : Hid (∀ (W : World), Calls Tryz.prog 21 #[.int .i64 (-1), .int .i64 4] W fun e w' => ∃ An cn Ad cd, e = .returned (.agg #[.bool true, .slice An 1 cn, .slice Ad 1 cd]) ∧ U64s w' (new W.heap.size) An cn [1] ∧ U64s w' (new W.heap.size) Ad cd [4] ∧ Below W.heap.size W w') := fun W => of6_q (w := W) (x := (-1)) (y := 4) (by omega) (by omega) (by omega) n5 rfl
  have CA : Hid (∀ (W : World) (Y1 Y2 Y3 Y4 : Zone) (A1 A2 A3 A4 : Option Addr) (c1 c2 c3 c4 : Nat), U64s W Y1 A1 c1 [1] → U64s W Y2 A2 c2 [2] → U64s W Y3 A3 c3 [1] → U64s W Y4 A4 c4 [3] → Calls Tryz.prog 13 #[.agg #[.bool false, .slice A1 1 c1, .slice A2 1 c2], .agg #[.bool false, .slice A3 1 c3, .slice A4 1 c4]] W fun e w' => ∃ An cn Ad cd, e = .returned (.tuple #[.agg #[.bool false, .slice An 1 cn, .slice Ad 1 cd], .int .i64 0]) ∧ U64s w' (new W.heap.size) An cn [5] ∧ U64s w' (new W.heap.size) Ad cd [6] ∧ Below W.heap.size W w') := fun W Y1 Y2 Y3 Y4 A1 A2 A3 A4 c1 c2 c3 c4 h1 h2 h3 h4 => radd_q n2 n3 n4 rfl h1 h2 h3 h4 (by simp) (by simp) (by simp) (by simp)
  have CD : Hid (∀ (W : World) (Y1 Y2 Y3 Y4 : Zone) (A1 A2 A3 A4 : Option Addr) (c1 c2 c3 c4 : Nat), U64s W Y1 A1 c1 [1] → U64s W Y2 A2 c2 [2] → U64s W Y3 A3 c3 [1] → U64s W Y4 A4 c4 [4] → Calls Tryz.prog 16 #[.agg #[.bool false, .slice A1 1 c1, .slice A2 1 c2], .agg #[.bool true, .slice A3 1 c3, .slice A4 1 c4]] W fun e w' => ∃ An cn Ad cd, e = .returned (.tuple #[.agg #[.bool true, .slice An 1 cn, .slice Ad 1 cd], .int .i64 0]) ∧ U64s w' (new W.heap.size) An cn [2] ∧ U64s w' (new W.heap.size) Ad cd [1] ∧ Below W.heap.size W w') := fun W Y1 Y2 Y3 Y4 A1 A2 A3 A4 c1 c2 c3 c4 h1 h2 h3 h4 => rdiv_q n2 n5 n6 rfl m5 h1 h2 h3 h4 (by simp) (by simp) (by simp) (by simp)
  have K1 : Hid (∀ (W : World) (Y1 Y2 : Zone) (A1 A2 : Option Addr) (c1 c2 : Nat), U64s W Y1 A1 c1 [3] → U64s W Y2 A2 c2 [2] → Tab W → Calls Tryz.prog 22 #[.agg #[.bool true, .slice A1 1 c1, .slice A2 1 c2], .int .i64 0, .string ⟨#[45, 51, 47, 50]⟩] W fun e w' => e = .returned (.bool true) ∧ Below W.heap.size W w') := fun W Y1 Y2 A1 A2 c1 c2 h1 h2 h => by
    have := tells_q (str := [45, 51, 47, 50]) (want := ⟨#[45, 51, 47, 50]⟩) rfl n1 W3.1 T2.1 (by rw [W3.2, T2.2]; decide +kernel) h1 h2 (by simp) (by simp) h
    exact this
  have K2 : Hid (∀ (W : World) (Y1 Y2 : Zone) (A1 A2 : Option Addr) (c1 c2 : Nat), U64s W Y1 A1 c1 [5] → U64s W Y2 A2 c2 [6] → Tab W → Calls Tryz.prog 22 #[.agg #[.bool false, .slice A1 1 c1, .slice A2 1 c2], .int .i64 0, .string ⟨#[53, 47, 54]⟩] W fun e w' => e = .returned (.bool true) ∧ Below W.heap.size W w') := fun W Y1 Y2 A1 A2 c1 c2 h1 h2 h => by
    have := tells_q (str := [53, 47, 54]) (want := ⟨#[53, 47, 54]⟩) rfl n4 W5.1 T6.1 (by rw [W5.2, T6.2]; decide +kernel) h1 h2 (by simp) (by simp) h
    exact this
  have K3 : Hid (∀ (W : World) (Y1 Y2 : Zone) (A1 A2 : Option Addr) (c1 c2 : Nat), U64s W Y1 A1 c1 [2] → U64s W Y2 A2 c2 [1] → Tab W → Calls Tryz.prog 22 #[.agg #[.bool true, .slice A1 1 c1, .slice A2 1 c2], .int .i64 0, .string ⟨#[45, 50]⟩] W fun e w' => e = .returned (.bool true) ∧ Below W.heap.size W w') := fun W Y1 Y2 A1 A2 c1 c2 h1 h2 h => by
    have := tells_q (str := [45, 50]) (want := ⟨#[45, 50]⟩) rfl n6 W2.1 T1.1 (by rw [W2.2]; decide +kernel) h1 h2 (by simp) (by simp) h
    exact this
  have HT := Lib.hid ht
  clear n1 n2 n3 n4 n5 n6 m5 a6 a4 W3 W5 W2 T2 T6 T1 ht
  go_enter Tryz.func7, Tryz.ntmps7
  go_wp2_with fail
  refine (C6.out _).mono ?_
  rintro e w1 ⟨A1, c1, rfl, u1, hc⟩
  have hs := hc
  have hB := hs
  clear hc hs
  go_wp2_with fail
  refine (C4.out _).mono ?_
  rintro e w2 ⟨A2, c2, rfl, u2, hc⟩
  have hs := step (w := w1) (by first | exact Below.refl _ _ | go_grown) hc
  replace u1 := u1.below hs
  replace hB := from_ hB hs
  clear hc hs
  go_wp2_with fail
  refine (CO.out _ _ _ _ _ _ _ u1 u2).mono ?_
  rintro e w3 ⟨A3, c3, A4, c4, rfl, u3, u4, hc⟩
  have hs := step (w := w2) (by first | exact Below.refl _ _ | go_grown) hc
  replace u1 := u1.below hs
  replace u2 := u2.below hs
  replace hB := from_ hB hs
  clear hc hs
  clear u1 u2
  have hal : Below w3.heap.size w3 (w3.alloc (.cells #[.bool true, .slice A3 1 c3, .slice A4 1 c4] 28)) := (Below.refl _ _).alloc (Nat.le_refl _) _
  obtain ⟨xa, ya, za, _, _, _, _⟩ := Box3.new w3 (.bool true) (.slice A3 1 c3) (.slice A4 1 c4) 28
  replace u3 := u3.below hal
  replace u4 := u4.below hal
  replace hB := from_ hB hal
  clear hal
  go_wp2_with fail
  refine (F2.out _).mono ?_
  rintro e w4 ⟨B1, d1, B2, d2, rfl, v1, v2, hc⟩
  have hs := step (w := (w3.alloc (.cells #[.bool true, .slice A3 1 c3, .slice A4 1 c4] 28))) (by first | exact Below.refl _ _ | go_grown) hc
  replace xa := keepC hs xa
  replace ya := keepC hs ya
  replace za := keepC hs za
  replace u3 := u3.below hs
  replace u4 := u4.below hs
  replace hB := from_ hB hs
  clear hc hs
  go_wp2_with fail
  refine (F3.out _).mono ?_
  rintro e w5 ⟨B3, d3, B4, d4, rfl, v3, v4, hc⟩
  have hs := step (w := w4) (by first | exact Below.refl _ _ | go_grown) hc
  replace xa := keepC hs xa
  replace ya := keepC hs ya
  replace za := keepC hs za
  replace u3 := u3.below hs
  replace u4 := u4.below hs
  replace v1 := v1.below hs
  replace v2 := v2.below hs
  replace hB := from_ hB hs
  clear hc hs
  go_wp2_with fail
  refine (CA.out _ _ _ _ _ _ _ _ _ _ _ _ _ v1 v2 v3 v4).mono ?_
  rintro e w6 ⟨B5, d5, B6, d6, rfl, u5, u6, hc⟩
  have hs := step (w := w5) (by first | exact Below.refl _ _ | go_grown) hc
  replace xa := keepC hs xa
  replace ya := keepC hs ya
  replace za := keepC hs za
  replace u3 := u3.below hs
  replace u4 := u4.below hs
  replace v1 := v1.below hs
  replace v2 := v2.below hs
  replace v3 := v3.below hs
  replace v4 := v4.below hs
  replace hB := from_ hB hs
  clear hc hs
  clear v1 v2 v3 v4
  have hal : Below w6.heap.size w6 (w6.alloc (.cells #[.bool false, .slice B5 1 d5, .slice B6 1 d6] 28)) := (Below.refl _ _).alloc (Nat.le_refl _) _
  obtain ⟨xb, yb, zb, _, _, _, _⟩ := Box3.new w6 (.bool false) (.slice B5 1 d5) (.slice B6 1 d6) 28
  replace xa := keepC hal xa
  replace ya := keepC hal ya
  replace za := keepC hal za
  replace u3 := u3.below hal
  replace u4 := u4.below hal
  replace u5 := u5.below hal
  replace u6 := u6.below hal
  replace hB := from_ hB hal
  clear hal
  go_wp2_with fail
  refine (F2.out _).mono ?_
  rintro e w7 ⟨B1, d1, B2, d2, rfl, v1, v2, hc⟩
  have hs := step (w := (w6.alloc (.cells #[.bool false, .slice B5 1 d5, .slice B6 1 d6] 28))) (by first | exact Below.refl _ _ | go_grown) hc
  replace xa := keepC hs xa
  replace ya := keepC hs ya
  replace za := keepC hs za
  replace xb := keepC hs xb
  replace yb := keepC hs yb
  replace zb := keepC hs zb
  replace u3 := u3.below hs
  replace u4 := u4.below hs
  replace u5 := u5.below hs
  replace u6 := u6.below hs
  replace hB := from_ hB hs
  clear hc hs
  go_wp2_with fail
  refine (F5.out _).mono ?_
  rintro e w8 ⟨B3, d3, B4, d4, rfl, v3, v4, hc⟩
  have hs := step (w := w7) (by first | exact Below.refl _ _ | go_grown) hc
  replace xa := keepC hs xa
  replace ya := keepC hs ya
  replace za := keepC hs za
  replace xb := keepC hs xb
  replace yb := keepC hs yb
  replace zb := keepC hs zb
  replace u3 := u3.below hs
  replace u4 := u4.below hs
  replace u5 := u5.below hs
  replace u6 := u6.below hs
  replace v1 := v1.below hs
  replace v2 := v2.below hs
  replace hB := from_ hB hs
  clear hc hs
  go_wp2_with fail
  refine (CD.out _ _ _ _ _ _ _ _ _ _ _ _ _ v1 v2 v3 v4).mono ?_
  rintro e w9 ⟨D5, e5, D6, e6, rfl, u7, u8, hc⟩
  have hs := step (w := w8) (by first | exact Below.refl _ _ | go_grown) hc
  replace xa := keepC hs xa
  replace ya := keepC hs ya
  replace za := keepC hs za
  replace xb := keepC hs xb
  replace yb := keepC hs yb
  replace zb := keepC hs zb
  replace u3 := u3.below hs
  replace u4 := u4.below hs
  replace u5 := u5.below hs
  replace u6 := u6.below hs
  replace v1 := v1.below hs
  replace v2 := v2.below hs
  replace v3 := v3.below hs
  replace v4 := v4.below hs
  replace hB := from_ hB hs
  clear hc hs
  clear v1 v2 v3 v4
  have hal : Below w9.heap.size w9 (w9.alloc (.cells #[.bool true, .slice D5 1 e5, .slice D6 1 e6] 28)) := (Below.refl _ _).alloc (Nat.le_refl _) _
  obtain ⟨xc, yc, zc, _, _, _, _⟩ := Box3.new w9 (.bool true) (.slice D5 1 e5) (.slice D6 1 e6) 28
  replace xa := keepC hal xa
  replace ya := keepC hal ya
  replace za := keepC hal za
  replace xb := keepC hal xb
  replace yb := keepC hal yb
  replace zb := keepC hal zb
  replace u3 := u3.below hal
  replace u4 := u4.below hal
  replace u5 := u5.below hal
  replace u6 := u6.below hal
  replace u7 := u7.below hal
  replace u8 := u8.below hal
  replace hB := from_ hB hal
  clear hal
  go_wp2_with fail
  refine (K1.out _ _ _ _ _ _ _ u3 u4 (HT.out.below hB)).mono ?_
  rintro e w10 ⟨rfl, hc⟩
  have hs := step (w := (w9.alloc (.cells #[.bool true, .slice D5 1 e5, .slice D6 1 e6] 28))) (by first | exact Below.refl _ _ | go_grown) hc
  replace xa := keepC hs xa
  replace ya := keepC hs ya
  replace za := keepC hs za
  replace xb := keepC hs xb
  replace yb := keepC hs yb
  replace zb := keepC hs zb
  replace xc := keepC hs xc
  replace yc := keepC hs yc
  replace zc := keepC hs zc
  replace u3 := u3.below hs
  replace u4 := u4.below hs
  replace u5 := u5.below hs
  replace u6 := u6.below hs
  replace u7 := u7.below hs
  replace u8 := u8.below hs
  replace hB := from_ hB hs
  clear hc hs
  go_wp2_with fail
  refine (K2.out _ _ _ _ _ _ _ u5 u6 (HT.out.below hB)).mono ?_
  rintro e w11 ⟨rfl, hc⟩
  have hs := step (w := w10) (by first | exact Below.refl _ _ | go_grown) hc
  replace xa := keepC hs xa
  replace ya := keepC hs ya
  replace za := keepC hs za
  replace xb := keepC hs xb
  replace yb := keepC hs yb
  replace zb := keepC hs zb
  replace xc := keepC hs xc
  replace yc := keepC hs yc
  replace zc := keepC hs zc
  replace u3 := u3.below hs
  replace u4 := u4.below hs
  replace u5 := u5.below hs
  replace u6 := u6.below hs
  replace u7 := u7.below hs
  replace u8 := u8.below hs
  replace hB := from_ hB hs
  clear hc hs
  go_wp2_with fail
  refine (K3.out _ _ _ _ _ _ _ u7 u8 (HT.out.below hB)).mono ?_
  rintro e w12 ⟨rfl, hc⟩
  have hs := step (w := w11) (by first | exact Below.refl _ _ | go_grown) hc
  replace xa := keepC hs xa
  replace ya := keepC hs ya
  replace za := keepC hs za
  replace xb := keepC hs xb
  replace yb := keepC hs yb
  replace zb := keepC hs zb
  replace xc := keepC hs xc
  replace yc := keepC hs yc
  replace zc := keepC hs zc
  replace u3 := u3.below hs
  replace u4 := u4.below hs
  replace u5 := u5.below hs
  replace u6 := u6.below hs
  replace u7 := u7.below hs
  replace u8 := u8.below hs
  replace hB := from_ hB hs
  clear hc hs
  go_wp2
  go_ret
  exact ⟨rfl, hB⟩

end Go.Proofs.YtbcplffdoejniaaGreatDoor

namespace Go.Proofs.YtbcplffdoejniaaGreatDoor
open Go.RowKit
set_option linter.unusedVariables false
set_option linter.unusedSimpArgs false

set_option maxRecDepth 100000 in
set_option maxHeartbeats 8000000 in
theorem great6_no {w : World} {s : Bool} {l k : List Nat} {A B : Option Addr} {c d n : Nat} (h1 : l.length ≤ n) (h2 : k.length ≤ n) (hn : n ≤ 1000) :
    Calls Tryz.prog 12 #[.agg #[.bool s, .slice A l.length c, .slice B k.length d], .int .i64 (n : Int)] w fun e w' => e = .returned (.bool false) ∧ Below w.heap.size w w' := by
  have hB := box_rat w (.bool s) (.slice A l.length c) (.slice B k.length d)
  obtain ⟨b0, b1, b2, _, _, _, _⟩ := Box3.new w (.bool s) (.slice A l.length c) (.slice B k.length d) 28
  have d1 : decide ((n : Int) < (l.length : Int)) = false := decide_eq_false (by omega)
  have d2 : decide ((n : Int) < (k.length : Int)) = false := decide_eq_false (by omega)
  generalize l.length = L1 at *
  generalize k.length = L2 at *
  go_enter Tryz.func12, Tryz.ntmps12
  go_wp2
  go_ret
  exact ⟨by simp; omega, hB⟩

set_option maxRecDepth 100000 in
set_option maxHeartbeats 8000000 in
theorem great6_yes {w : World} {s : Bool} {l k : List Nat} {A B : Option Addr} {c d n : Nat} (h : n < l.length ∨ (l.length ≤ n ∧ n < k.length)) (hn : n ≤ 1000) :
    Calls Tryz.prog 12 #[.agg #[.bool s, .slice A l.length c, .slice B k.length d], .int .i64 (n : Int)] w fun e w' => e = .returned (.bool true) ∧ Below w.heap.size w w' := by
  have hB := box_rat w (.bool s) (.slice A l.length c) (.slice B k.length d)
  obtain ⟨b0, b1, b2, _, _, _, _⟩ := Box3.new w (.bool s) (.slice A l.length c) (.slice B k.length d) 28
  have hcase : decide (n < l.length) = true ∨ (decide (n < l.length) = false ∧ decide (n < k.length) = true) := by
    rcases h with h | ⟨h1, h2⟩
    · exact .inl (decide_eq_true (by omega))
    · exact .inr ⟨decide_eq_false (by omega), decide_eq_true (by omega)⟩
  generalize l.length = L1 at *
  generalize k.length = L2 at *
  clear h
  rcases hcase with d1 | ⟨d1, d2⟩
  all_goals
    go_enter Tryz.func12, Tryz.ntmps12
    go_wp2
    go_ret
    exact ⟨rfl, hB⟩

theorem checkQ_ok {w : World} {Z Y : Zone} {s : Bool} {l k : List Nat} {A B : Option Addr} {c d : Nat} {q : Rat} (hq : NmQ q s l k) (u1 : U64s w Z A c l) (u2 : U64s w Y B d k) (hl : l.length ≤ 10000) (hl2 : k.length ≤ 10000) :
    Calls Tryz.prog 11 #[.agg #[.bool s, .slice A l.length c, .slice B k.length d]] w fun e w' => e = .returned (.int .i64 0) ∧ Below w.heap.size w w' := by
  have := ratcheck_any (s := s) u1 u2 hl hl2
  have e0 : errF s l k = 0 := by unfold errF; rw [if_pos hq.ok]
  rwa [e0] at this
theorem checkQ_bad {w : World} {Z Y : Zone} {s : Bool} {l k : List Nat} {A B : Option Addr} {c d : Nat} (hq : okQ s l k = false) (u1 : U64s w Z A c l) (u2 : U64s w Y B d k) (hl : l.length ≤ 10000) (hl2 : k.length ≤ 10000) :
    Calls Tryz.prog 11 #[.agg #[.bool s, .slice A l.length c, .slice B k.length d]] w fun e w' => e = .returned (.int .i64 8) ∧ Below w.heap.size w w' := by
  have := ratcheck_any (s := s) u1 u2 hl hl2
  have e0 : errF s l k = 8 := by unfold errF; rw [if_neg (by rw [hq]; simp)]
  rwa [e0] at this

theorem boxes3Q (w : World) (a0 a1 a2 b0 b1 b2 c0 c1 c2 : Value) :
    Box3 (((w.alloc (.cells #[a0, a1, a2] 28)).alloc (.cells #[b0, b1, b2] 28)).alloc (.cells #[c0, c1, c2] 28)) w.heap.size a0 a1 a2 ∧
    Box3 (((w.alloc (.cells #[a0, a1, a2] 28)).alloc (.cells #[b0, b1, b2] 28)).alloc (.cells #[c0, c1, c2] 28)) (w.heap.size + 1) b0 b1 b2 ∧
    Box3 (((w.alloc (.cells #[a0, a1, a2] 28)).alloc (.cells #[b0, b1, b2] 28)).alloc (.cells #[c0, c1, c2] 28)) (w.heap.size + 1 + 1) c0 c1 c2 ∧
    Below w.heap.size w (((w.alloc (.cells #[a0, a1, a2] 28)).alloc (.cells #[b0, b1, b2] 28)).alloc (.cells #[c0, c1, c2] 28)) := boxesQ w a0 a1 a2 b0 b1 b2 c0 c1 c2


set_option maxRecDepth 100000 in
set_option maxHeartbeats 8000000 in
theorem same6_dec {w : World} {Z1 Z2 Z3 Z4 : Zone} {s t : Bool} {l k l' k' : List Nat} {A B C D : Option Addr} {a b c d : Nat} {O : Bool} (hO : decide (s = t ∧ l = l' ∧ k = k') = O) (u1 : U64s w Z1 A a l) (u2 : U64s w Z2 B b k) (u3 : U64s w Z3 C c l') (u4 : U64s w Z4 D d k') :
    Calls Tryz.prog 10 #[.agg #[.bool s, .slice A l.length a, .slice B k.length b], .agg #[.bool t, .slice C l'.length c, .slice D k'.length d]] w fun e w' => e = .returned (.bool O) ∧ Below w.heap.size w w' := by
  obtain ⟨bA, bC, hB0⟩ := boxes2Q w (.bool s) (.slice A l.length a) (.slice B k.length b) (.bool t) (.slice C l'.length c) (.slice D k'.length d)
  obtain ⟨D0, h0⟩ : ∃ D0, D0 = decide (s = t ∧ l = l') := ⟨_, rfl⟩
  obtain ⟨D1, h1⟩ : ∃ D1, D1 = decide (k = k') := ⟨_, rfl⟩
  have C0 := same5_any (a := .agg #[.bool s, .slice A l.length a]) (b := .agg #[.bool t, .slice C l'.length c]) ⟨_, rfl, A, a, rfl, u1.below hB0⟩ ⟨_, rfl, C, c, rfl, u3.below hB0⟩
  have C1 : Hid (∀ w1, Below w.heap.size w w1 → Calls Tryz.prog 31 #[.slice B k.length b, .slice D k'.length d] w1 fun e w' => e = .returned (.bool D1) ∧ Below w1.heap.size w1 w') := fun w1 h => by
    have := same_dec (w := w1) ⟨B, b, rfl, u2.below h⟩ ⟨D, d, rfl, u4.below h⟩
    rwa [← h1] at this
  rw [← h0] at C0
  have hOO : O = (D0 && D1) := by
    rw [← hO, h0, h1, Bool.eq_iff_iff]
    simp only [Bool.and_eq_true, decide_eq_true_iff]
    exact and_assoc.symm
  have C0' := Lib.hid C0
  have HO := Lib.hid hOO
  have Hal := Lib.hid hB0
  obtain ⟨a0, a1, a2, _, _, _, _⟩ := bA
  obtain ⟨c0, c1, c2, _, _, _, _⟩ := bC
  clear u1 u2 u3 u4 hB0 C0 h0 h1 hOO hO
  generalize l.length = L at *
  generalize k.length = K at *
  generalize l'.length = L' at *
  generalize k'.length = K' at *
  cases D0
  · go_enter Tryz.func10, Tryz.ntmps10
    go_wp2_with fail
    refine C0'.out.mono ?_
    rintro e w1 ⟨rfl, hb1⟩
    have hB1 := from_ Hal.out hb1
    go_wp2
    go_ret
    exact ⟨by rw [HO.out]; rfl, hB1⟩
  · go_enter Tryz.func10, Tryz.ntmps10
    go_wp2_with fail
    refine C0'.out.mono ?_
    rintro e w1 ⟨rfl, hb1⟩
    replace a2 := keepC hb1 a2
    replace c2 := keepC hb1 c2
    have hB1 := from_ Hal.out hb1
    go_wp2_with fail
    refine (C1.out _ hB1).mono ?_
    rintro e w2 ⟨rfl, hb2⟩
    have hB2 := from_ hB1 hb2
    go_wp2
    go_ret
    exact ⟨by rw [HO.out]; rfl, hB2⟩

end Go.Proofs.YtbcplffdoejniaaGreatDoor

namespace Go.Proofs.YtbcplffdoejniaaGreatDoor
open Go.RowKit
set_option linter.unusedVariables false
set_option linter.unusedSimpArgs false

theorem rq_valQ {x y : Int} {d : Bool} (hr : x.natAbs % y.natAbs ≠ 0) : rq x y d = if (x < 0 ↔ y < 0) then ((x.natAbs / y.natAbs : Nat) : Int) + (if d = true then 0 else 1) else -((x.natAbs / y.natAbs : Nat) : Int) - (if d = true then 1 else 0) := by
  have hz : decide (0 < (limbs (x.natAbs % y.natAbs)).length) = true := decide_eq_true (by rw [len_pos]; omega)
  unfold rq tq
  rw [hz]
  generalize ((x.natAbs / y.natAbs : Nat) : Int) = q
  by_cases hx : x < 0 <;> by_cases hy : y < 0 <;> cases d <;> simp [hx, hy] <;> omega

/-- Quotients rounded: the plain law. -/
theorem rounds_plainQ {x y : Int} (hy : y ≠ 0) :
    (x.natAbs % y.natAbs = 0 ∧ x - rq x y true * y = 0 ∧ rq x y false = rq x y true ∧ -(rq (-x) y true) = rq x y true ∧ tq x y = rq x y true) ∨
    (x.natAbs % y.natAbs ≠ 0 ∧ sgn (x - rq x y true * y) = sgn y ∧ rq x y false = rq x y true + 1 ∧ -(rq (-x) y true) = rq x y true + 1 ∧ (x - rq x y true * y).natAbs < y.natAbs) := by
  have hn : 0 < y.natAbs := by omega
  have h1 := Nat.div_add_mod x.natAbs y.natAbs
  have h2 := Nat.mod_lt x.natAbs hn
  have h3 : (-x).natAbs = x.natAbs := Int.natAbs_neg x
  by_cases hr : x.natAbs % y.natAbs = 0
  · left
    unfold rq tq
    rw [h3]
    rw [hr] at h1 ⊢
    have hz : decide (0 < (limbs 0).length) = false := decide_eq_false (by rw [len_pos]; omega)
    rw [hz]
    simp only [Bool.false_and, Bool.false_eq_true, if_false]
    generalize x.natAbs / y.natAbs = q at *
    have h4 : ((y.natAbs * q + 0 : Nat) : Int) = (x.natAbs : Int) := by rw [h1]
    rw [Int.natCast_add, Int.natCast_mul] at h4
    by_cases hx : x < 0
    · have e1 : (x.natAbs : Int) = -x := by omega
      have hx2 : ¬ (-x < 0) := by omega
      by_cases hy2 : y < 0
      · have e2 : (y.natAbs : Int) = -y := by omega
        rw [e1, e2] at h4
        simp only [hx, hx2, hy2, decide_true, decide_false, if_true, if_false]
        refine ⟨by trivial, ?_, by trivial, ?_, by trivial⟩
        · rw [Int.neg_mul] at h4; rw [Int.mul_comm]; omega
        · rw [if_neg (by decide)]; omega
      · have e2 : (y.natAbs : Int) = y := by omega
        rw [e1, e2] at h4
        simp only [hx, hx2, hy2, decide_true, decide_false, if_true, if_false]
        refine ⟨by trivial, ?_, by trivial, ?_, by trivial⟩
        · rw [if_neg (by decide), Int.neg_mul, Int.mul_comm]; omega
        · rw [if_neg (by decide)]
    · by_cases hx0 : x = 0
      · subst hx0
        have hq : q = 0 := by
          rcases Nat.mul_eq_zero.1 (show y.natAbs * q = 0 by simpa using h1) with h | h
          · omega
          · exact h
        subst hq
        simp
      · have e1 : (x.natAbs : Int) = x := by omega
        have hx2 : -x < 0 := by omega
        by_cases hy2 : y < 0
        · have e2 : (y.natAbs : Int) = -y := by omega
          rw [e1, e2] at h4
          simp only [hx, hx2, hy2, decide_true, decide_false, if_true, if_false]
          refine ⟨by trivial, ?_, by trivial, ?_, by trivial⟩
          · rw [if_neg (by decide), Int.neg_mul, Int.mul_comm]; rw [Int.neg_mul] at h4; omega
          · rw [if_neg (by decide)]
        · have e2 : (y.natAbs : Int) = y := by omega
          rw [e1, e2] at h4
          simp only [hx, hx2, hy2, decide_true, decide_false, if_true, if_false]
          refine ⟨by trivial, ?_, by trivial, ?_, by trivial⟩
          · rw [Int.mul_comm]; omega
          · rw [if_neg (by decide)]; omega
  · right
    have hx0 : x ≠ 0 := by
      intro h
      subst h
      exact hr (by simp)
    have hr3 : (-x).natAbs % y.natAbs ≠ 0 := by rw [h3]; exact hr
    rw [rq_valQ hr, rq_valQ hr, rq_valQ hr3, h3]
    refine ⟨hr, ?_⟩
    generalize x.natAbs / y.natAbs = q at *
    generalize x.natAbs % y.natAbs = r at *
    have h4 : ((y.natAbs * q + r : Nat) : Int) = (x.natAbs : Int) := by rw [h1]
    rw [Int.natCast_add, Int.natCast_mul] at h4
    have sp : ∀ z : Int, 0 < z → sgn z = 1 := fun z hz => by unfold sgn; rw [if_neg (by omega), if_neg (by omega)]
    have sn : ∀ z : Int, z < 0 → sgn z = -1 := fun z hz => by unfold sgn; rw [if_neg (by omega), if_pos hz]
    simp only [if_true, Bool.false_eq_true, if_false]
    have k2 : (q : Int) * y = y * q := Int.mul_comm _ _
    have k4 : ((q : Int) + 0) * y = y * q := by rw [Int.add_zero]; exact k2
    have k3 : (-(q : Int) - 1) * y = -(y * q) - y := by rw [Int.sub_mul, Int.neg_mul, k2]; omega
    by_cases hx : x < 0
    · have e1 : (x.natAbs : Int) = -x := by omega
      by_cases hy2 : y < 0
      · have e2 : (y.natAbs : Int) = -y := by omega
        rw [e1, e2, Int.neg_mul] at h4
        rw [if_pos (show (x < 0 ↔ y < 0) by omega), if_pos (show (x < 0 ↔ y < 0) by omega), if_neg (show ¬ (-x < 0 ↔ y < 0) by omega), k4]
        refine ⟨?_, by omega, by omega, by omega⟩
        rw [sn y hy2, sn _ (by omega)]
      · have e2 : (y.natAbs : Int) = y := by omega
        rw [e1, e2] at h4
        rw [if_neg (show ¬ (x < 0 ↔ y < 0) by omega), if_neg (show ¬ (x < 0 ↔ y < 0) by omega), if_pos (show (-x < 0 ↔ y < 0) by omega), k3]
        refine ⟨?_, by omega, by omega, by omega⟩
        rw [sp y (by omega), sp _ (by omega)]
    · have e1 : (x.natAbs : Int) = x := by omega
      by_cases hy2 : y < 0
      · have e2 : (y.natAbs : Int) = -y := by omega
        rw [e1, e2, Int.neg_mul] at h4
        rw [if_neg (show ¬ (x < 0 ↔ y < 0) by omega), if_neg (show ¬ (x < 0 ↔ y < 0) by omega), if_pos (show (-x < 0 ↔ y < 0) by omega), k3]
        refine ⟨?_, by omega, by omega, by omega⟩
        rw [sn y hy2, sn _ (by omega)]
      · have e2 : (y.natAbs : Int) = y := by omega
        rw [e1, e2] at h4
        rw [if_pos (show (x < 0 ↔ y < 0) by omega), if_pos (show (x < 0 ↔ y < 0) by omega), if_neg (show ¬ (-x < 0 ↔ y < 0) by omega), k4]
        refine ⟨?_, by omega, by omega, by omega⟩
        rw [sp y (by omega), sp _ (by omega)]

theorem len_rqQ (x y : Int) (d : Bool) : (limbs (rq x y d).natAbs).length ≤ (limbs x.natAbs).length + 1 := by
  have h : (rq x y d).natAbs ≤ x.natAbs + 1 := by
    have h1 : (tq x y).natAbs ≤ x.natAbs := by
      have h2 := Nat.div_le_self x.natAbs y.natAbs
      unfold tq
      generalize x.natAbs / y.natAbs = q at *
      split <;> omega
    unfold rq
    split
    · split <;> omega
    · omega
  have h2 := len_add x.natAbs 1
  have h3 : (limbs 1).length = 1 := by rw [limbs_one (by omega) (by omega)]; rfl
  by_cases h0 : x.natAbs = 0
  · rw [h0] at h ⊢
    exact Nat.le_trans (len_mono h) (by rw [Nat.zero_add, h3]; omega)
  · have := (len_pos (m := x.natAbs)).2 (by omega)
    exact Nat.le_trans (Nat.le_trans (len_mono h) h2) (by omega)

theorem sgn_divInt {x d : Int} (hd : 0 < d) : sgn (Rat.divInt x d).num = sgn x := by
  obtain ⟨h1, h2, h3⟩ := divInt_parts (x := x) (y := d) (by omega)
  have hg : 0 < Nat.gcd x.natAbs d.natAbs := Nat.gcd_pos_of_pos_right _ (by omega)
  have h0 : (Rat.divInt x d).num = 0 ↔ x = 0 := by
    constructor
    · intro h
      have h4 := Nat.div_mul_cancel (Nat.gcd_dvd_left x.natAbs d.natAbs)
      rw [← h1, h] at h4
      have h5 : x.natAbs = 0 := by rw [← h4]; simp
      omega
    · intro h
      have h5 : (Rat.divInt x d).num.natAbs = 0 := by rw [h1, h]; simp
      omega
  unfold sgn
  by_cases hx : x = 0
  · rw [if_pos (h0.2 hx), if_pos hx]
  · rw [if_neg (fun h => hx (h0.1 h)), if_neg hx]
    by_cases hn : x < 0
    · rw [if_pos (h3.2 (.inl ⟨hn, hd⟩)), if_pos hn]
    · rw [if_neg (fun h => by rcases h3.1 h with h | h <;> omega), if_neg hn]
theorem divInt_sub {a b d : Int} (hd : d ≠ 0) : Rat.divInt a d - Rat.divInt b d = Rat.divInt (a - b) d := by
  rw [Rat.sub_eq_add_neg, Rat.neg_divInt, Rat.divInt_add_divInt _ _ hd hd, ← Int.add_mul, Rat.divInt_mul_right hd, Int.sub_eq_add_neg]
theorem divInt_up {z d : Int} (hd : d ≠ 0) : Rat.divInt z 1 = Rat.divInt (z * d) d := by
  have h := Rat.divInt_mul_right (n := z) (d := 1) hd
  rw [Int.one_mul] at h
  exact h.symm
theorem divInt_none {d : Int} (hd : d ≠ 0) : Rat.divInt 0 1 = Rat.divInt 0 d := by
  have h := divInt_up (z := 0) hd
  rwa [Int.zero_mul] at h
/-- The whole numbers below and above a fraction. -/
theorem order_plain (p : Rat) :
    sgn ((p - Rat.divInt (rq p.num (p.den : Int) true) 1) - Rat.divInt 1 1).num = -1 ∧ sgn ((Rat.divInt (rq p.num (p.den : Int) false) 1 - p) - Rat.divInt 1 1).num = -1 ∧
    (0 ≤ sgn ((p - Rat.divInt (rq p.num (p.den : Int) true) 1) - Rat.divInt 0 1).num ∧ sgn ((p - Rat.divInt (rq p.num (p.den : Int) true) 1) - Rat.divInt 0 1).num ≤ 1) ∧
    (0 ≤ sgn ((Rat.divInt (rq p.num (p.den : Int) false) 1 - p) - Rat.divInt 0 1).num ∧ sgn ((Rat.divInt (rq p.num (p.den : Int) false) 1 - p) - Rat.divInt 0 1).num ≤ 1) := by
  have hd : (p.den : Int) ≠ 0 := by have := p.den_nz; omega
  have hd0 : (0 : Int) < (p.den : Int) := by omega
  have hp : p = Rat.divInt p.num (p.den : Int) := (Rat.num_divInt_den p).symm
  have hr := rounds_plainQ (x := p.num) (y := (p.den : Int)) hd
  generalize p.num = x at *
  generalize (p.den : Int) = d at *
  have e1 : Rat.divInt 1 1 = Rat.divInt d d := by have := divInt_up (z := 1) hd; rwa [Int.one_mul] at this
  rw [hp, e1, divInt_none hd, divInt_up (z := rq x d true) hd, divInt_up (z := rq x d false) hd]
  simp only [divInt_sub hd, sgn_divInt hd0]
  have hs : ∀ z : Int, z < 0 → sgn z = -1 := fun z h => by unfold sgn; rw [if_neg (by omega), if_pos h]
  have hs2 : ∀ z : Int, 0 ≤ z → 0 ≤ sgn z ∧ sgn z ≤ 1 := fun z h => by
    unfold sgn
    split
    · omega
    · rw [if_neg (by omega)]; omega
  have hlo : 0 ≤ x - rq x d true * d ∧ x - rq x d true * d < d ∧ 0 ≤ rq x d false * d - x ∧ rq x d false * d - x < d := by
    rcases hr with ⟨_, h1, h2, _⟩ | ⟨_, h1, h2, _, h3⟩
    · rw [h2]; omega
    · have h4 : sgn d = 1 := by unfold sgn; rw [if_neg hd, if_neg (by omega)]
      rw [h4] at h1
      have h5 : 0 < x - rq x d true * d := by
        unfold sgn at h1
        split at h1
        · omega
        · split at h1
          · omega
          · omega
      rw [h2, Int.add_mul, Int.one_mul]
      omega
  obtain ⟨a1, a2, a3, a4⟩ := hlo
  exact ⟨hs _ (by omega), hs _ (by omega), hs2 _ (by omega), hs2 _ (by omega)⟩
theorem sub_len {p q : Rat} {K : Nat} (h1 : (limbs p.num.natAbs).length ≤ K) (h2 : (limbs p.den).length ≤ K) (h3 : (limbs q.num.natAbs).length ≤ K) (h4 : (limbs q.den).length ≤ K) :
    (limbs (p - q).num.natAbs).length ≤ K + K + 1 ∧ (limbs (p - q).den).length ≤ K + K := by
  have h := add_len p (-q)
  rw [← Rat.sub_eq_add_neg, Rat.neg_num, Rat.neg_den, Int.natAbs_neg] at h
  omega
theorem nmq_eq {p q : Rat} {s t : Bool} {l k l' k' : List Nat} (hp : NmQ p s l k) (hq : NmQ q t l' k') : decide (s = t ∧ l = l' ∧ k = k') = decide (sgn (p - q).num = 0) := by
  refine decide_eq_decide.2 ?_
  have h0 : sgn (p - q).num = 0 ↔ p - q = 0 := by
    rw [← Rat.num_eq_zero]
    unfold sgn
    constructor
    · intro h
      split at h
      · assumption
      · split at h <;> omega
    · intro h; rw [if_pos h]
  rw [h0]
  constructor
  · rintro ⟨rfl, rfl, rfl⟩
    rw [hp.uniq hq]
    grind
  · intro h
    have e : p = q := by grind
    subst e
    obtain ⟨a1, a2, a3⟩ := hp
    obtain ⟨b1, b2, b3⟩ := hq
    exact ⟨a1.trans b1.symm, a2.trans b2.symm, a3.trans b3.symm⟩
theorem sgn_neg (x : Int) : sgn (-x) = -sgn x := by
  unfold sgn
  by_cases h : x = 0
  · subst h; rfl
  · by_cases h2 : x < 0
    · rw [if_neg (by omega), if_neg (by omega), if_neg h, if_pos h2]; rfl
    · rw [if_neg (by omega), if_pos (by omega), if_neg h, if_neg h2]
theorem sgn_vals (x : Int) : sgn x = -1 ∨ sgn x = 0 ∨ sgn x = 1 := by
  unfold sgn
  split
  · simp
  · split <;> simp

/-- What Add answers, whatever it is handed: fixed by what is handed. -/
theorem radd_some (s t : Bool) (l k l' k' : List Nat) : ∃ (r : Bool) (la ld : List Nat) (E : Int), ∀ (w : World) (Z1 Z2 Z3 Z4 : Zone) (A B C D : Option Addr) (a b c d : Nat), U64s w Z1 A a l → U64s w Z2 B b k → U64s w Z3 C c l' → U64s w Z4 D d k' → l.length ≤ 2000 → k.length ≤ 2000 → l'.length ≤ 2000 → k'.length ≤ 2000 →
    Calls Tryz.prog 13 #[.agg #[.bool s, .slice A l.length a, .slice B k.length b], .agg #[.bool t, .slice C l'.length c, .slice D k'.length d]] w fun e w' => ∃ An cn Ad cd, e = .returned (.tuple #[.agg #[.bool r, .slice An la.length cn, .slice Ad ld.length cd], .int .i64 E]) ∧ U64s w' (new w.heap.size) An cn la ∧ U64s w' (new w.heap.size) Ad cd ld ∧ Below w.heap.size w w' := by
  by_cases h : (okQ s l k = true ∧ okQ t l' k' = true) ∧ (Small l ∧ Small k) ∧ (Small l' ∧ Small k')
  · obtain ⟨⟨o1, o2⟩, ⟨s1, s2⟩, s3, s4⟩ := h
    obtain ⟨p, hp⟩ := okQ_nm o1 s1 s2
    obtain ⟨q, hq⟩ := okQ_nm o2 s3 s4
    exact ⟨_, _, _, 0, fun w Z1 Z2 Z3 Z4 A B C D a b c d u1 u2 u3 u4 q1 q2 q3 q4 => radd_q hp hq (NmQ.mk' (p + q)) rfl u1 u2 u3 u4 q1 q2 q3 q4⟩
  · refine ⟨false, [], [], 8, fun w Z1 Z2 Z3 Z4 A B C D a b c d u1 u2 u3 u4 q1 q2 q3 q4 => ?_⟩
    refine (radd_err u1 u2 u3 u4 q1 q2 q3 q4 (fun ho => h ⟨ho, ⟨u1.small, u2.small⟩, u3.small, u4.small⟩)).mono ?_
    rintro e w' ⟨rfl, hb⟩
    exact ⟨none, 0, none, 0, rfl, U64s.nil _ _, U64s.nil _ _, hb⟩

end Go.Proofs.YtbcplffdoejniaaGreatDoor
