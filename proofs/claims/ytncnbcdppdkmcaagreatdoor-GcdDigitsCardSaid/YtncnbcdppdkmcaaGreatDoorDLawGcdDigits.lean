/-
  The walk of GcdDigits. The one premise: the table of powers of ten reads as it is laid. No conditions.
-/
import Derived.Test.YtncnbcdppdkmcaaGreatDoorDGcdE
import Derived.Test.YtncnbcdppdkmcaaGreatDoorDDigQ
namespace Go.Proofs.YtncnbcdppdkmcaaGreatDoor
open Go.RowKit
set_option linter.unusedVariables false
set_option linter.unusedSimpArgs false

theorem few_size {l : List UInt8} (h : l.length ≤ 4096) (ha : l.all isDg = true) : size (dval l) ≤ 16384 := by
  refine size_le_of ?_
  refine Nat.lt_of_lt_of_le (dval_lt l ha) (Nat.le_trans (Nat.pow_le_pow_right (by omega) h) ?_)
  obtain ⟨q, hq⟩ : ∃ q, q = 4096 := ⟨_, rfl⟩
  rw [show 16384 = 4 * 4096 by omega, ← hq, Nat.pow_mul]
  exact Nat.pow_le_pow_left (by decide) q
theorem text_ok {l : List UInt8} (h : okD l) : errT (limbs (dval l)) = 0 ∧ txtT (limbs (dval l)) = l := by
  obtain ⟨t1, t2⟩ := text_few (n := dval l) (few_size h.1 h.2.2.2) (by rw [dec_ok h]; exact h.1)
  unfold errT txtT
  rw [if_pos (good_limbs _), if_pos (good_limbs _), val_limbs, t1, t2, dec_ok h]
  exact ⟨rfl, rfl⟩
/-- What Text made may be parsed. -/
theorem ok_text {l : List Nat} (h : errT l = 0) : good l = true ∧ okD (txtT l) ∧ dval (txtT l) = val l := by
  cases hg : good l with
  | false =>
    unfold errT at h
    rw [hg, if_neg (by decide)] at h
    omega
  | true =>
    unfold errT at h
    unfold txtT
    rw [if_pos hg] at h ⊢
    unfold textE at h
    unfold textS
    split at h
    · rename_i hk
      rw [if_pos hk]
      exact ⟨rfl, ok_dec hk.2, dval_dec _⟩
    · exact absurd h (by decide)
theorem str_of {s : ByteArray} {l : List UInt8} (h : s.data.toList = l) : (⟨l.toArray⟩ : ByteArray) = s := by
  rw [← h]
theorem digit_of (d : Nat) (h : d < 10) : ((⟨#[48, 49, 50, 51, 52, 53, 54, 55, 56, 57]⟩ : ByteArray).extract d (d + 1)) = ⟨#[UInt8.ofNat (48 + d)]⟩ := by
  have : ∀ n, n < 10 → ((⟨#[48, 49, 50, 51, 52, 53, 54, 55, 56, 57]⟩ : ByteArray).extract n (n + 1)) = ⟨#[UInt8.ofNat (48 + n)]⟩ := by decide +kernel
  exact this d h

theorem gparse_at {w : World} (s : ByteArray) {e0 : Int} {n : Nat} (he : parseE s.data.toList = e0) (hn : parseN s.data.toList = n) (hs : s.size ≤ 9223372036854775807) :
    Calls Tryz.prog 6 #[.string s] w fun e w' => ∃ v, e = .returned (.tuple #[v, .int .i64 e0]) ∧ IsN w' (new w.heap.size) v n ∧ Below w.heap.size w w' := by
  subst he
  subst hn
  exact gparse_any s hs

set_option maxRecDepth 100000 in
set_option maxHeartbeats 4000000 in
theorem digits00 {w : World} {a : Value} {la : List Nat} {s : ByteArray} {d : Nat} (ha : IsU w old a la) (h0 : la.length ≤ 200) (hs : s.size ≤ 3000) (hd : d < 256) (ht : Tab w) (hE : errT la ≠ 0) (hP : ¬ okD s.data.toList) :
    Calls Tryz.prog 4 #[a, .string s, .int .u8 (d : Int)] w fun e w' => e = .returned (.bool true) ∧ Below w.heap.size w w' := by
  obtain ⟨tx, htx⟩ : ∃ tx : ByteArray, tx = ⟨(txtT la).toArray⟩ := ⟨_, rfl⟩
  obtain ⟨er, her⟩ : ∃ er, er = errT la := ⟨_, rfl⟩
  have her1 : (er == 0) = false := beq_eq_false_iff_ne.2 (by rw [her]; exact hE)
  obtain ⟨pe, hpe⟩ : ∃ pe, pe = parseE s.data.toList := ⟨_, rfl⟩
  have hpe0 : pe ≠ 0 := fun e => hP (parseE_zero.1 (by rw [← hpe, e]))
  have hpe1 : (pe == 0) = false := beq_eq_false_iff_ne.2 hpe0
  have hpe2 : (pe != 0) = true := by simp [hpe0]
  have hpn : parseN s.data.toList = 0 := if_neg hP
  have Hpe := Lib.hid hpe
  have Hpn := Lib.hid hpn
  clear hpe hpe0 hpn
  have hla := h0
  obtain ⟨A, ca, rfl, ha⟩ := ha
  have ua : IsU w old (.slice A la.length ca) la := ⟨A, ca, rfl, ha⟩
  have hd1 : decide ((200 : Int) < (la.length : Int)) = false := decide_eq_false (by omega)
  have hd2 : decide ((3000 : Int) < (s.size : Int)) = false := decide_eq_false (by omega)
  have Ht := Lib.hid ht
  have Htx := Lib.hid htx
  have Her := Lib.hid her
  clear ht ha htx her
  go_enter Tryz.func4, Tryz.ntmps4
  go_wp2_with fail
  refine (alive4 Ht.out).mono ?_
  rintro e w1 ⟨rfl, hB⟩
  replace ua := ua.below hB
  have htext := gtext_all ua (by omega) (Ht.out.below hB)
  rw [show strV (txtT la) = .string tx from by rw [Htx.out], ← Her.out] at htext
  have Htext := Lib.hid htext
  clear htext
  go_wp2_with fail
  refine Htext.out.mono ?_
  rintro e w2 ⟨rfl, hb⟩
  replace ua := ua.below hb
  replace hB := from_ hB hb
  clear hb Htext
  go_wp2_with fail
  refine (gparse_at s Hpe.out.symm Hpn.out (by omega)).mono ?_
  rintro e w5 ⟨b, rfl, hb5, hb⟩
  replace hB := from_ hB hb
  clear hb
  obtain ⟨Bb, cb, rfl, hb5⟩ := hb5
  rw [show (limbs 0).length = 0 from rfl]
  go_wp2
  go_ret
  exact ⟨rfl, hB⟩

set_option maxRecDepth 100000 in
set_option maxHeartbeats 4000000 in
theorem digits01 {w : World} {a : Value} {la : List Nat} {s : ByteArray} {d : Nat} (ha : IsU w old a la) (h0 : la.length ≤ 200) (hs : s.size ≤ 3000) (hd : d < 256) (ht : Tab w) (hE : errT la ≠ 0) (hP : okD s.data.toList) (hD : dval s.data.toList = 0) :
    Calls Tryz.prog 4 #[a, .string s, .int .u8 (d : Int)] w fun e w' => e = .returned (.bool true) ∧ Below w.heap.size w w' := by
  obtain ⟨tx, htx⟩ : ∃ tx : ByteArray, tx = ⟨(txtT la).toArray⟩ := ⟨_, rfl⟩
  obtain ⟨er, her⟩ : ∃ er, er = errT la := ⟨_, rfl⟩
  have her1 : (er == 0) = false := beq_eq_false_iff_ne.2 (by rw [her]; exact hE)
  obtain ⟨q1, q2⟩ := parse_ok hP
  obtain ⟨u1, u2⟩ := text_ok hP
  have hlen := Lib.hid (Nat.le_trans (dval_len hP.1 hP.2.2.2) (show 256 ≤ 1000 by omega))
  have Q1 := Lib.hid q1
  have Q2 := Lib.hid q2
  have U1 := Lib.hid u1
  have U2 := Lib.hid u2
  clear q1 q2 u1 u2
  have hla := h0
  obtain ⟨A, ca, rfl, ha⟩ := ha
  have ua : IsU w old (.slice A la.length ca) la := ⟨A, ca, rfl, ha⟩
  have hd1 : decide ((200 : Int) < (la.length : Int)) = false := decide_eq_false (by omega)
  have hd2 : decide ((3000 : Int) < (s.size : Int)) = false := decide_eq_false (by omega)
  have Ht := Lib.hid ht
  have Htx := Lib.hid htx
  have Her := Lib.hid her
  clear ht ha htx her
  go_enter Tryz.func4, Tryz.ntmps4
  go_wp2_with fail
  refine (alive4 Ht.out).mono ?_
  rintro e w1 ⟨rfl, hB⟩
  replace ua := ua.below hB
  have htext := gtext_all ua (by omega) (Ht.out.below hB)
  rw [show strV (txtT la) = .string tx from by rw [Htx.out], ← Her.out] at htext
  have Htext := Lib.hid htext
  clear htext
  go_wp2_with fail
  refine Htext.out.mono ?_
  rintro e w2 ⟨rfl, hb⟩
  replace ua := ua.below hb
  replace hB := from_ hB hb
  clear hb Htext
  go_wp2_with fail
  refine (gparse_at s Q1.out Q2.out (by omega)).mono ?_
  rintro e w5 ⟨b, rfl, hb5, hb⟩
  replace hB := from_ hB hb
  clear hb
  have htext := gtext_all hb5 (by have := hlen.out; omega) (Ht.out.below hB)
  rw [U1.out, U2.out, show strV s.data.toList = .string s from by show Value.string _ = Value.string s; rw [str_of (s := s) rfl]] at htext
  have Htext := Lib.hid htext
  clear htext
  obtain ⟨Bb, cb, rfl, hb5⟩ := hb5
  rw [show (limbs (dval s.data.toList)).length = 0 from by rw [hD]; rfl] at Htext ⊢
  go_wp2_with fail
  refine Htext.out.mono ?_
  rintro e w6 ⟨rfl, hb⟩
  replace hb5 := hb5.below hb
  replace hB := from_ hB hb
  clear hb Htext
  go_wp2
  go_ret
  exact ⟨rfl, hB⟩

set_option maxRecDepth 100000 in
set_option maxHeartbeats 4000000 in
theorem digits02 {w : World} {a : Value} {la : List Nat} {s : ByteArray} {d : Nat} (ha : IsU w old a la) (h0 : la.length ≤ 200) (hs : s.size ≤ 3000) (hd : d < 256) (ht : Tab w) (hE : errT la ≠ 0) (hP : okD s.data.toList) (hD : dval s.data.toList ≠ 0) :
    Calls Tryz.prog 4 #[a, .string s, .int .u8 (d : Int)] w fun e w' => e = .returned (.bool true) ∧ Below w.heap.size w w' := by
  obtain ⟨tx, htx⟩ : ∃ tx : ByteArray, tx = ⟨(txtT la).toArray⟩ := ⟨_, rfl⟩
  obtain ⟨er, her⟩ : ∃ er, er = errT la := ⟨_, rfl⟩
  have her1 : (er == 0) = false := beq_eq_false_iff_ne.2 (by rw [her]; exact hE)
  obtain ⟨q1, q2⟩ := parse_ok hP
  obtain ⟨u1, u2⟩ := text_ok hP
  have hlen := Lib.hid (Nat.le_trans (dval_len hP.1 hP.2.2.2) (show 256 ≤ 1000 by omega))
  have Q1 := Lib.hid q1
  have Q2 := Lib.hid q2
  have U1 := Lib.hid u1
  have U2 := Lib.hid u2
  clear q1 q2 u1 u2
  obtain ⟨x1, x2⟩ := ok_snoc (d := d % 10) hP (by rw [← str_size rfl]; omega) hD (by omega)
  have hxl : (s ++ (⟨#[48, 49, 50, 51, 52, 53, 54, 55, 56, 57]⟩ : ByteArray).extract (d % 10) (d % 10 + 1)).data.toList = s.data.toList ++ [UInt8.ofNat (48 + d % 10)] := by
    rw [digit_of (d % 10) (by omega)]
    simp
  have X1 := Lib.hid (show parseE (s ++ (⟨#[48, 49, 50, 51, 52, 53, 54, 55, 56, 57]⟩ : ByteArray).extract (d % 10) (d % 10 + 1)).data.toList = 0 by rw [hxl]; exact (parse_ok x1).1)
  have X2 := Lib.hid (show parseN (s ++ (⟨#[48, 49, 50, 51, 52, 53, 54, 55, 56, 57]⟩ : ByteArray).extract (d % 10) (d % 10 + 1)).data.toList = dval s.data.toList * 10 + d % 10 by rw [hxl, (parse_ok x1).2, x2])
  have X3 := Lib.hid (show (s ++ (⟨#[48, 49, 50, 51, 52, 53, 54, 55, 56, 57]⟩ : ByteArray).extract (d % 10) (d % 10 + 1)).size ≤ 9223372036854775807 by rw [str_size hxl]; have := x1.1; omega)
  have X4 := Lib.hid (show (limbs (dval s.data.toList * 10)).length ≤ 1000 from Nat.le_trans (len_mono (Nat.le_add_right _ (d % 10))) (by rw [← x2]; exact Nat.le_trans (dval_len x1.1 x1.2.2.2) (by omega)))
  have X5 := Lib.hid (show (limbs (d % 10)).length ≤ 1 from len_limbs_le (by rw [Nat.pow_one]; omega))
  have hnl : (((limbs (dval s.data.toList)).length : Int) == 0) = false := beq_eq_false_iff_ne.2 (by have := len_pos.2 hD; omega)
  clear x1 x2 hxl
  have hla := h0
  obtain ⟨A, ca, rfl, ha⟩ := ha
  have ua : IsU w old (.slice A la.length ca) la := ⟨A, ca, rfl, ha⟩
  have hd1 : decide ((200 : Int) < (la.length : Int)) = false := decide_eq_false (by omega)
  have hd2 : decide ((3000 : Int) < (s.size : Int)) = false := decide_eq_false (by omega)
  have Ht := Lib.hid ht
  have Htx := Lib.hid htx
  have Her := Lib.hid her
  clear ht ha htx her
  go_enter Tryz.func4, Tryz.ntmps4
  go_wp2_with fail
  refine (alive4 Ht.out).mono ?_
  rintro e w1 ⟨rfl, hB⟩
  replace ua := ua.below hB
  have htext := gtext_all ua (by omega) (Ht.out.below hB)
  rw [show strV (txtT la) = .string tx from by rw [Htx.out], ← Her.out] at htext
  have Htext := Lib.hid htext
  clear htext
  go_wp2_with fail
  refine Htext.out.mono ?_
  rintro e w2 ⟨rfl, hb⟩
  replace ua := ua.below hb
  replace hB := from_ hB hb
  clear hb Htext
  go_wp2_with fail
  refine (gparse_at s Q1.out Q2.out (by omega)).mono ?_
  rintro e w5 ⟨b, rfl, hb5, hb⟩
  replace hB := from_ hB hb
  clear hb
  have htext := gtext_all hb5 (by have := hlen.out; omega) (Ht.out.below hB)
  rw [U1.out, U2.out, show strV s.data.toList = .string s from by show Value.string _ = Value.string s; rw [str_of (s := s) rfl]] at htext
  have Htext := Lib.hid htext
  clear htext
  obtain ⟨Bb, cb, rfl, hb5⟩ := hb5
  go_wp2_with fail
  refine Htext.out.mono ?_
  rintro e w6 ⟨rfl, hb⟩
  replace hb5 := hb5.below hb
  replace hB := from_ hB hb
  clear hb Htext
  go_wp2_with fail
  refine (gparse_at (s ++ (⟨#[48, 49, 50, 51, 52, 53, 54, 55, 56, 57]⟩ : ByteArray).extract (d % 10) (d % 10 + 1)) X1.out X2.out X3.out).mono ?_
  rintro e w7 ⟨x, rfl, hx, hb⟩
  replace hb5 := hb5.below hb
  replace hB := from_ hB hb
  clear hb
  have n5 : IsN w7 (new w2.heap.size) (.slice Bb (limbs (dval s.data.toList)).length cb) (dval s.data.toList) := ⟨Bb, cb, rfl, hb5⟩
  have h10 : IsN (w7.alloc (.cells #[.int .u64 10] 31)) old (.slice (some ⟨w7.heap.size, 0, none⟩) 1 1) 10 := isN_one (by omega) (by omega) (cell_newest rfl rfl)
  have hb3 : Below w7.heap.size w7 (w7.alloc (.cells #[.int .u64 10] 31)) := (Below.refl _ w7).alloc (Nat.le_refl _) _
  have hmul := Lib.hid (mul_good (n5.below hb3) h10 (by have := hlen.out; omega) (by decide +kernel))
  have Hb3 := Lib.hid hb3
  clear h10 hb3 n5
  go_wp2_with fail
  refine hmul.out.mono ?_
  rintro e w8 ⟨y, rfl, hy, hb⟩
  have hs8 : Below w7.heap.size w7 w8 := step Hb3.out hb
  replace hx := hx.below hs8
  replace hB := from_ hB hs8
  clear hb hs8 hmul Hb3
  go_wp2_with fail
  refine (of_any (w := w8) (x := d % 10) (by omega)).mono ?_
  rintro e w9 ⟨q, rfl, hq, hb⟩
  replace hx := hx.below hb
  replace hy := hy.below hb
  replace hB := from_ hB hb
  clear hb
  go_wp2_with fail
  refine (add_good hy hq (by have := X4.out; omega) (by have := X5.out; omega)).mono ?_
  rintro e w10 ⟨z, rfl, hz, hb⟩
  replace hx := hx.below hb
  replace hB := from_ hB hb
  clear hb hy hq
  go_wp2_with fail
  refine (same_num hx hz rfl).mono ?_
  rintro e w11 ⟨rfl, hb⟩
  replace hB := from_ hB hb
  clear hb hx hz
  go_wp2
  go_ret
  exact ⟨rfl, hB⟩

set_option maxRecDepth 100000 in
set_option maxHeartbeats 4000000 in
theorem digits10 {w : World} {a : Value} {la : List Nat} {s : ByteArray} {d : Nat} (ha : IsU w old a la) (h0 : la.length ≤ 200) (hs : s.size ≤ 3000) (hd : d < 256) (ht : Tab w) (hE : errT la = 0) (hP : ¬ okD s.data.toList) :
    Calls Tryz.prog 4 #[a, .string s, .int .u8 (d : Int)] w fun e w' => e = .returned (.bool true) ∧ Below w.heap.size w w' := by
  obtain ⟨tx, htx⟩ : ∃ tx : ByteArray, tx = ⟨(txtT la).toArray⟩ := ⟨_, rfl⟩
  obtain ⟨er, her⟩ : ∃ er, er = errT la := ⟨_, rfl⟩
  obtain ⟨hg, hok, hdv⟩ := ok_text hE
  have htl : tx.data.toList = txtT la := by rw [htx]
  obtain ⟨p1, p2⟩ := parse_ok hok
  rw [← htl] at p1 p2
  have p3 : parseN tx.data.toList = val la := by rw [p2, htl, hdv]
  have htz : tx.size ≤ 9223372036854775807 := by have := hok.1; rw [str_size htl]; omega
  have hlv : limbs (val la) = la := limbs_val la ha.small hg
  have her0 : er = 0 := by rw [her, hE]
  subst her0
  obtain ⟨pe, hpe⟩ : ∃ pe, pe = parseE s.data.toList := ⟨_, rfl⟩
  have hpe0 : pe ≠ 0 := fun e => hP (parseE_zero.1 (by rw [← hpe, e]))
  have hpe1 : (pe == 0) = false := beq_eq_false_iff_ne.2 hpe0
  have hpe2 : (pe != 0) = true := by simp [hpe0]
  have hpn : parseN s.data.toList = 0 := if_neg hP
  have Hpe := Lib.hid hpe
  have Hpn := Lib.hid hpn
  clear hpe hpe0 hpn
  have hla := h0
  obtain ⟨A, ca, rfl, ha⟩ := ha
  have ua : IsU w old (.slice A la.length ca) la := ⟨A, ca, rfl, ha⟩
  have hd1 : decide ((200 : Int) < (la.length : Int)) = false := decide_eq_false (by omega)
  have hd2 : decide ((3000 : Int) < (s.size : Int)) = false := decide_eq_false (by omega)
  have Ht := Lib.hid ht
  have Htx := Lib.hid htx
  have Her := Lib.hid her
  clear ht ha htx her
  go_enter Tryz.func4, Tryz.ntmps4
  go_wp2_with fail
  refine (alive4 Ht.out).mono ?_
  rintro e w1 ⟨rfl, hB⟩
  replace ua := ua.below hB
  have htext := gtext_all ua (by omega) (Ht.out.below hB)
  rw [show strV (txtT la) = .string tx from by rw [Htx.out], ← Her.out] at htext
  have Htext := Lib.hid htext
  clear htext
  go_wp2_with fail
  refine Htext.out.mono ?_
  rintro e w2 ⟨rfl, hb⟩
  replace ua := ua.below hb
  replace hB := from_ hB hb
  clear hb Htext
  go_wp2_with fail
  refine (gparse_at tx p1 p3 htz).mono ?_
  rintro e w3 ⟨v, rfl, hv, hb⟩
  replace ua := ua.below hb
  replace hB := from_ hB hb
  clear hb
  have uv : IsU w3 (new w2.heap.size) v la := by
    unfold IsN at hv
    rwa [hlv] at hv
  go_wp2_with fail
  refine (same_yes ua uv).mono ?_
  rintro e w4 ⟨rfl, hb⟩
  replace ua := ua.below hb
  replace hB := from_ hB hb
  clear hb uv hv
  go_wp2_with fail
  refine (gparse_at s Hpe.out.symm Hpn.out (by omega)).mono ?_
  rintro e w5 ⟨b, rfl, hb5, hb⟩
  replace hB := from_ hB hb
  clear hb
  obtain ⟨Bb, cb, rfl, hb5⟩ := hb5
  rw [show (limbs 0).length = 0 from rfl]
  go_wp2
  go_ret
  exact ⟨rfl, hB⟩

set_option maxRecDepth 100000 in
set_option maxHeartbeats 4000000 in
theorem digits11 {w : World} {a : Value} {la : List Nat} {s : ByteArray} {d : Nat} (ha : IsU w old a la) (h0 : la.length ≤ 200) (hs : s.size ≤ 3000) (hd : d < 256) (ht : Tab w) (hE : errT la = 0) (hP : okD s.data.toList) (hD : dval s.data.toList = 0) :
    Calls Tryz.prog 4 #[a, .string s, .int .u8 (d : Int)] w fun e w' => e = .returned (.bool true) ∧ Below w.heap.size w w' := by
  obtain ⟨tx, htx⟩ : ∃ tx : ByteArray, tx = ⟨(txtT la).toArray⟩ := ⟨_, rfl⟩
  obtain ⟨er, her⟩ : ∃ er, er = errT la := ⟨_, rfl⟩
  obtain ⟨hg, hok, hdv⟩ := ok_text hE
  have htl : tx.data.toList = txtT la := by rw [htx]
  obtain ⟨p1, p2⟩ := parse_ok hok
  rw [← htl] at p1 p2
  have p3 : parseN tx.data.toList = val la := by rw [p2, htl, hdv]
  have htz : tx.size ≤ 9223372036854775807 := by have := hok.1; rw [str_size htl]; omega
  have hlv : limbs (val la) = la := limbs_val la ha.small hg
  have her0 : er = 0 := by rw [her, hE]
  subst her0
  obtain ⟨q1, q2⟩ := parse_ok hP
  obtain ⟨u1, u2⟩ := text_ok hP
  have hlen := Lib.hid (Nat.le_trans (dval_len hP.1 hP.2.2.2) (show 256 ≤ 1000 by omega))
  have Q1 := Lib.hid q1
  have Q2 := Lib.hid q2
  have U1 := Lib.hid u1
  have U2 := Lib.hid u2
  clear q1 q2 u1 u2
  have hla := h0
  obtain ⟨A, ca, rfl, ha⟩ := ha
  have ua : IsU w old (.slice A la.length ca) la := ⟨A, ca, rfl, ha⟩
  have hd1 : decide ((200 : Int) < (la.length : Int)) = false := decide_eq_false (by omega)
  have hd2 : decide ((3000 : Int) < (s.size : Int)) = false := decide_eq_false (by omega)
  have Ht := Lib.hid ht
  have Htx := Lib.hid htx
  have Her := Lib.hid her
  clear ht ha htx her
  go_enter Tryz.func4, Tryz.ntmps4
  go_wp2_with fail
  refine (alive4 Ht.out).mono ?_
  rintro e w1 ⟨rfl, hB⟩
  replace ua := ua.below hB
  have htext := gtext_all ua (by omega) (Ht.out.below hB)
  rw [show strV (txtT la) = .string tx from by rw [Htx.out], ← Her.out] at htext
  have Htext := Lib.hid htext
  clear htext
  go_wp2_with fail
  refine Htext.out.mono ?_
  rintro e w2 ⟨rfl, hb⟩
  replace ua := ua.below hb
  replace hB := from_ hB hb
  clear hb Htext
  go_wp2_with fail
  refine (gparse_at tx p1 p3 htz).mono ?_
  rintro e w3 ⟨v, rfl, hv, hb⟩
  replace ua := ua.below hb
  replace hB := from_ hB hb
  clear hb
  have uv : IsU w3 (new w2.heap.size) v la := by
    unfold IsN at hv
    rwa [hlv] at hv
  go_wp2_with fail
  refine (same_yes ua uv).mono ?_
  rintro e w4 ⟨rfl, hb⟩
  replace ua := ua.below hb
  replace hB := from_ hB hb
  clear hb uv hv
  go_wp2_with fail
  refine (gparse_at s Q1.out Q2.out (by omega)).mono ?_
  rintro e w5 ⟨b, rfl, hb5, hb⟩
  replace hB := from_ hB hb
  clear hb
  have htext := gtext_all hb5 (by have := hlen.out; omega) (Ht.out.below hB)
  rw [U1.out, U2.out, show strV s.data.toList = .string s from by show Value.string _ = Value.string s; rw [str_of (s := s) rfl]] at htext
  have Htext := Lib.hid htext
  clear htext
  obtain ⟨Bb, cb, rfl, hb5⟩ := hb5
  rw [show (limbs (dval s.data.toList)).length = 0 from by rw [hD]; rfl] at Htext ⊢
  go_wp2_with fail
  refine Htext.out.mono ?_
  rintro e w6 ⟨rfl, hb⟩
  replace hb5 := hb5.below hb
  replace hB := from_ hB hb
  clear hb Htext
  go_wp2
  go_ret
  exact ⟨rfl, hB⟩

set_option maxRecDepth 100000 in
set_option maxHeartbeats 4000000 in
theorem digits12 {w : World} {a : Value} {la : List Nat} {s : ByteArray} {d : Nat} (ha : IsU w old a la) (h0 : la.length ≤ 200) (hs : s.size ≤ 3000) (hd : d < 256) (ht : Tab w) (hE : errT la = 0) (hP : okD s.data.toList) (hD : dval s.data.toList ≠ 0) :
    Calls Tryz.prog 4 #[a, .string s, .int .u8 (d : Int)] w fun e w' => e = .returned (.bool true) ∧ Below w.heap.size w w' := by
  obtain ⟨tx, htx⟩ : ∃ tx : ByteArray, tx = ⟨(txtT la).toArray⟩ := ⟨_, rfl⟩
  obtain ⟨er, her⟩ : ∃ er, er = errT la := ⟨_, rfl⟩
  obtain ⟨hg, hok, hdv⟩ := ok_text hE
  have htl : tx.data.toList = txtT la := by rw [htx]
  obtain ⟨p1, p2⟩ := parse_ok hok
  rw [← htl] at p1 p2
  have p3 : parseN tx.data.toList = val la := by rw [p2, htl, hdv]
  have htz : tx.size ≤ 9223372036854775807 := by have := hok.1; rw [str_size htl]; omega
  have hlv : limbs (val la) = la := limbs_val la ha.small hg
  have her0 : er = 0 := by rw [her, hE]
  subst her0
  obtain ⟨q1, q2⟩ := parse_ok hP
  obtain ⟨u1, u2⟩ := text_ok hP
  have hlen := Lib.hid (Nat.le_trans (dval_len hP.1 hP.2.2.2) (show 256 ≤ 1000 by omega))
  have Q1 := Lib.hid q1
  have Q2 := Lib.hid q2
  have U1 := Lib.hid u1
  have U2 := Lib.hid u2
  clear q1 q2 u1 u2
  obtain ⟨x1, x2⟩ := ok_snoc (d := d % 10) hP (by rw [← str_size rfl]; omega) hD (by omega)
  have hxl : (s ++ (⟨#[48, 49, 50, 51, 52, 53, 54, 55, 56, 57]⟩ : ByteArray).extract (d % 10) (d % 10 + 1)).data.toList = s.data.toList ++ [UInt8.ofNat (48 + d % 10)] := by
    rw [digit_of (d % 10) (by omega)]
    simp
  have X1 := Lib.hid (show parseE (s ++ (⟨#[48, 49, 50, 51, 52, 53, 54, 55, 56, 57]⟩ : ByteArray).extract (d % 10) (d % 10 + 1)).data.toList = 0 by rw [hxl]; exact (parse_ok x1).1)
  have X2 := Lib.hid (show parseN (s ++ (⟨#[48, 49, 50, 51, 52, 53, 54, 55, 56, 57]⟩ : ByteArray).extract (d % 10) (d % 10 + 1)).data.toList = dval s.data.toList * 10 + d % 10 by rw [hxl, (parse_ok x1).2, x2])
  have X3 := Lib.hid (show (s ++ (⟨#[48, 49, 50, 51, 52, 53, 54, 55, 56, 57]⟩ : ByteArray).extract (d % 10) (d % 10 + 1)).size ≤ 9223372036854775807 by rw [str_size hxl]; have := x1.1; omega)
  have X4 := Lib.hid (show (limbs (dval s.data.toList * 10)).length ≤ 1000 from Nat.le_trans (len_mono (Nat.le_add_right _ (d % 10))) (by rw [← x2]; exact Nat.le_trans (dval_len x1.1 x1.2.2.2) (by omega)))
  have X5 := Lib.hid (show (limbs (d % 10)).length ≤ 1 from len_limbs_le (by rw [Nat.pow_one]; omega))
  have hnl : (((limbs (dval s.data.toList)).length : Int) == 0) = false := beq_eq_false_iff_ne.2 (by have := len_pos.2 hD; omega)
  clear x1 x2 hxl
  have hla := h0
  obtain ⟨A, ca, rfl, ha⟩ := ha
  have ua : IsU w old (.slice A la.length ca) la := ⟨A, ca, rfl, ha⟩
  have hd1 : decide ((200 : Int) < (la.length : Int)) = false := decide_eq_false (by omega)
  have hd2 : decide ((3000 : Int) < (s.size : Int)) = false := decide_eq_false (by omega)
  have Ht := Lib.hid ht
  have Htx := Lib.hid htx
  have Her := Lib.hid her
  clear ht ha htx her
  go_enter Tryz.func4, Tryz.ntmps4
  go_wp2_with fail
  refine (alive4 Ht.out).mono ?_
  rintro e w1 ⟨rfl, hB⟩
  replace ua := ua.below hB
  have htext := gtext_all ua (by omega) (Ht.out.below hB)
  rw [show strV (txtT la) = .string tx from by rw [Htx.out], ← Her.out] at htext
  have Htext := Lib.hid htext
  clear htext
  go_wp2_with fail
  refine Htext.out.mono ?_
  rintro e w2 ⟨rfl, hb⟩
  replace ua := ua.below hb
  replace hB := from_ hB hb
  clear hb Htext
  go_wp2_with fail
  refine (gparse_at tx p1 p3 htz).mono ?_
  rintro e w3 ⟨v, rfl, hv, hb⟩
  replace ua := ua.below hb
  replace hB := from_ hB hb
  clear hb
  have uv : IsU w3 (new w2.heap.size) v la := by
    unfold IsN at hv
    rwa [hlv] at hv
  go_wp2_with fail
  refine (same_yes ua uv).mono ?_
  rintro e w4 ⟨rfl, hb⟩
  replace ua := ua.below hb
  replace hB := from_ hB hb
  clear hb uv hv
  go_wp2_with fail
  refine (gparse_at s Q1.out Q2.out (by omega)).mono ?_
  rintro e w5 ⟨b, rfl, hb5, hb⟩
  replace hB := from_ hB hb
  clear hb
  have htext := gtext_all hb5 (by have := hlen.out; omega) (Ht.out.below hB)
  rw [U1.out, U2.out, show strV s.data.toList = .string s from by show Value.string _ = Value.string s; rw [str_of (s := s) rfl]] at htext
  have Htext := Lib.hid htext
  clear htext
  obtain ⟨Bb, cb, rfl, hb5⟩ := hb5
  go_wp2_with fail
  refine Htext.out.mono ?_
  rintro e w6 ⟨rfl, hb⟩
  replace hb5 := hb5.below hb
  replace hB := from_ hB hb
  clear hb Htext
  go_wp2_with fail
  refine (gparse_at (s ++ (⟨#[48, 49, 50, 51, 52, 53, 54, 55, 56, 57]⟩ : ByteArray).extract (d % 10) (d % 10 + 1)) X1.out X2.out X3.out).mono ?_
  rintro e w7 ⟨x, rfl, hx, hb⟩
  replace hb5 := hb5.below hb
  replace hB := from_ hB hb
  clear hb
  have n5 : IsN w7 (new w4.heap.size) (.slice Bb (limbs (dval s.data.toList)).length cb) (dval s.data.toList) := ⟨Bb, cb, rfl, hb5⟩
  have h10 : IsN (w7.alloc (.cells #[.int .u64 10] 31)) old (.slice (some ⟨w7.heap.size, 0, none⟩) 1 1) 10 := isN_one (by omega) (by omega) (cell_newest rfl rfl)
  have hb3 : Below w7.heap.size w7 (w7.alloc (.cells #[.int .u64 10] 31)) := (Below.refl _ w7).alloc (Nat.le_refl _) _
  have hmul := Lib.hid (mul_good (n5.below hb3) h10 (by have := hlen.out; omega) (by decide +kernel))
  have Hb3 := Lib.hid hb3
  clear h10 hb3 n5
  go_wp2_with fail
  refine hmul.out.mono ?_
  rintro e w8 ⟨y, rfl, hy, hb⟩
  have hs8 : Below w7.heap.size w7 w8 := step Hb3.out hb
  replace hx := hx.below hs8
  replace hB := from_ hB hs8
  clear hb hs8 hmul Hb3
  go_wp2_with fail
  refine (of_any (w := w8) (x := d % 10) (by omega)).mono ?_
  rintro e w9 ⟨q, rfl, hq, hb⟩
  replace hx := hx.below hb
  replace hy := hy.below hb
  replace hB := from_ hB hb
  clear hb
  go_wp2_with fail
  refine (add_good hy hq (by have := X4.out; omega) (by have := X5.out; omega)).mono ?_
  rintro e w10 ⟨z, rfl, hz, hb⟩
  replace hx := hx.below hb
  replace hB := from_ hB hb
  clear hb hy hq
  go_wp2_with fail
  refine (same_num hx hz rfl).mono ?_
  rintro e w11 ⟨rfl, hb⟩
  replace hB := from_ hB hb
  clear hb hx hz
  go_wp2
  go_ret
  exact ⟨rfl, hB⟩

set_option maxRecDepth 100000 in
set_option maxHeartbeats 4000000 in
theorem lawGcdDigits {w : World} {a : Value} {la : List Nat} {s : ByteArray} {d : Int} (ha : IsU w old a la) (hs : s.size ≤ maxLen) (hd : 0 ≤ d ∧ d ≤ 255) (ht : Tab w) :
    Calls Tryz.prog 4 #[a, .string s, .int .u8 d] w fun e w' => e = .returned (.bool true) ∧ Below w.heap.size w w' := by
  obtain ⟨d, rfl⟩ : ∃ n : Nat, d = (n : Int) := ⟨d.toNat, by omega⟩
  by_cases h0 : la.length ≤ 200
  · by_cases h1 : s.size ≤ 3000
    · by_cases hE : errT la = 0 <;> by_cases hP : okD s.data.toList
      · by_cases hD : dval s.data.toList = 0
        · exact digits11 ha h0 h1 (by omega) ht hE hP hD
        · exact digits12 ha h0 h1 (by omega) ht hE hP hD
      · exact digits10 ha h0 h1 (by omega) ht hE hP
      · by_cases hD : dval s.data.toList = 0
        · exact digits01 ha h0 h1 (by omega) ht hE hP hD
        · exact digits02 ha h0 h1 (by omega) ht hE hP hD
      · exact digits00 ha h0 h1 (by omega) ht hE hP
    · obtain ⟨A, ca, rfl, ha⟩ := ha
      have hd1 : decide ((200 : Int) < (la.length : Int)) = false := decide_eq_false (by omega)
      have hd2 : decide ((3000 : Int) < (s.size : Int)) = true := decide_eq_true (by omega)
      go_enter Tryz.func4, Tryz.ntmps4
      go_wp2_with fail
      refine (alive4 ht).mono ?_
      rintro e w1 ⟨rfl, hB⟩
      go_wp2
      go_ret
      exact ⟨rfl, hB⟩
  · obtain ⟨A, ca, rfl, ha⟩ := ha
    have hd1 : decide ((200 : Int) < (la.length : Int)) = true := decide_eq_true (by omega)
    go_enter Tryz.func4, Tryz.ntmps4
    go_wp2_with fail
    refine (alive4 ht).mono ?_
    rintro e w1 ⟨rfl, hB⟩
    go_wp2
    go_ret
    exact ⟨rfl, hB⟩

end Go.Proofs.YtncnbcdppdkmcaaGreatDoor
