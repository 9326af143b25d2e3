/-
  gcd.Parse: the number of a text of digits, or the error. No conditions.
  Texts of whole numbers, parsed: plain facts. No conditions.
-/
import Derived.WalkSpells
import Derived.WalkLawsBesides
import Derived.Test.YtceenaegchlbcaaGreatDoorEDigP
import Derived.Test.YtceenaegchlbcaaGreatDoorEShelfP
import Derived.Test.YtceenaegchlbcaaGreatDoorERefI
namespace Go.Proofs.YtceenaegchlbcaaGreatDoor
open Go.RowKit
set_option linter.unusedVariables false
set_option linter.unusedSimpArgs false

/-- A row of digits that Parse takes. -/
def okD (l : List UInt8) : Prop := l.length ≤ 4096 ∧ l ≠ [] ∧ (l.head? = some 48 → l = [48]) ∧ l.all isDg = true
instance (l : List UInt8) : Decidable (okD l) := by unfold okD; infer_instance
/-- What Parse answers: an error, or none; and a number. -/
def parseE (l : List UInt8) : Int := if okD l then 0 else if 4096 < l.length then 3 else 8
def parseN (l : List UInt8) : Nat := if okD l then dval l else 0
theorem parse_ok {l : List UInt8} (h : okD l) : parseE l = 0 ∧ parseN l = dval l := by
  unfold parseE parseN
  rw [if_pos h, if_pos h]
  exact ⟨rfl, rfl⟩
theorem parse_long {l : List UInt8} (h : 4096 < l.length) : parseE l = 3 ∧ parseN l = 0 := by
  unfold parseE parseN
  have hn : ¬ okD l := fun k => by have := k.1; omega
  rw [if_neg hn, if_neg hn, if_pos h]
  exact ⟨rfl, rfl⟩
theorem parse_bad {l : List UInt8} (hl : l.length ≤ 4096) (hn : ¬ okD l) : parseE l = 8 ∧ parseN l = 0 := by
  unfold parseE parseN
  rw [if_neg hn, if_neg hn, if_neg (by omega)]
  exact ⟨rfl, rfl⟩
theorem parseE_zero {l : List UInt8} : parseE l = 0 ↔ okD l := by
  constructor
  · intro h
    apply Classical.byContradiction
    intro hn
    unfold parseE at h
    rw [if_neg hn] at h
    split at h <;> omega
  · exact fun h => (parse_ok h).1
/-- What is parsed is that text. -/
theorem dec_ok {l : List UInt8} (h : okD l) : Lib.decDigits (dval l) = l := by
  obtain ⟨_, h0, hh, ha⟩ := h
  by_cases e : l.head? = some 48
  · rw [hh e]
    have e1 : dval [48] = 0 := by decide +kernel
    rw [e1, Lib.decDigits_one (by omega)]
    rfl
  · exact dec_dval _ l rfl h0 e ha
/-- A number's numeral may be parsed. -/
theorem ok_dec {n : Nat} (h : (Lib.decDigits n).length ≤ 4096) : okD (Lib.decDigits n) := by
  refine ⟨h, dec_ne n, fun e => ?_, dec_all n⟩
  by_cases h0 : n = 0
  · rw [h0, Lib.decDigits_one (by omega)]
    rfl
  · exact absurd e (dec_head h0)
/-- A digit behind. -/
theorem ok_snoc {l : List UInt8} {d : Nat} (h : okD l) (hl : l.length ≤ 4095) (h0 : dval l ≠ 0) (hd : d < 10) : okD (l ++ [UInt8.ofNat (48 + d)]) ∧ dval (l ++ [UInt8.ofNat (48 + d)]) = dval l * 10 + d := by
  obtain ⟨_, hne, hh, ha⟩ := h
  refine ⟨⟨by rw [List.length_append]; simpa using hl, by simp, fun e => ?_, ?_⟩, ?_⟩
  · rw [head_app _ hne] at e
    refine absurd ?_ h0
    rw [hh e]
    decide +kernel
  · rw [List.all_append, ha, List.all_cons, isDg_iff.2 (by rw [ofNat_dg hd]; omega)]
    rfl
  · rw [dval_snoc, ofNat_dg hd]
    omega

theorem gparse_long {w : World} (s : ByteArray) (hs : s.size ≤ 9223372036854775807) (h : 4096 < s.size) :
    Calls Tryz.prog 8 #[.string s] w fun e w' => e = .returned (.tuple #[.slice none 0 0, .int .i64 3]) ∧ w' = w := by
  go_enter Tryz.func8, Tryz.ntmps8
  go_wp2
  go_ret2
  exact ⟨rfl, rfl⟩

theorem gparse_empty {w : World} :
    Calls Tryz.prog 8 #[.string ⟨#[]⟩] w fun e w' => e = .returned (.tuple #[.slice none 0 0, .int .i64 8]) ∧ w' = w := by
  go_enter Tryz.func8, Tryz.ntmps8
  go_wp2
  go_ret2
  exact ⟨rfl, rfl⟩

theorem str_empty {s : ByteArray} {l : List UInt8} (e : s.data.toList = l) (h : l ≠ []) : s.toList.isEmpty = false := by
  rw [Lib.toList_data, e]
  cases l with
  | nil => exact absurd rfl h
  | cons b l => rfl
theorem str_none {s : ByteArray} {l : List UInt8} (e : s.data.toList = l) (h : l = []) : s.toList.isEmpty = true := by
  rw [Lib.toList_data, e, h]
  rfl
theorem str_size {s : ByteArray} {l : List UInt8} (e : s.data.toList = l) : s.size = l.length := by rw [← e]; simp
theorem str_head {s : ByteArray} {b : UInt8} {l : List UInt8} (e : s.data.toList = b :: l) (h : 0 < s.size) : s[0] = b := by
  have e1 : s[0] = s.data.toList[0]'(by simpa using h) := by simp; rfl
  rw [e1]
  simp [e]

theorem gparse_nought {w : World} (s : ByteArray) {l : List UInt8} (hl : s.data.toList = 48 :: l) (hs : s.size ≤ 4096) (h2 : l ≠ []) :
    Calls Tryz.prog 8 #[.string s] w fun e w' => e = .returned (.tuple #[.slice none 0 0, .int .i64 8]) ∧ w' = w := by
  have hE := str_empty hl (by simp)
  have hp : 0 < s.size := by rw [str_size hl]; simp
  have hz : ((s[0].toNat : Int) == 48) = true := by rw [str_head hl hp]; rfl
  have hN : (s.toList == [48]) = false := by rw [Lib.toList_data, hl]; simpa using h2
  go_enter Tryz.func8, Tryz.ntmps8
  go_wp2
  go_ret2
  exact ⟨rfl, rfl⟩

theorem gparse_bad {w : World} (s : ByteArray) {b : UInt8} {l : List UInt8} (hl : s.data.toList = b :: l) (hs : s.size ≤ 4096) (hb : b ≠ 48) (ha : (b :: l).all isDg = false) :
    Calls Tryz.prog 8 #[.string s] w fun e w' => e = .returned (.tuple #[.slice none 0 0, .int .i64 8]) ∧ Below w.heap.size w w' := by
  have hE := str_empty hl (by simp)
  have hp : 0 < s.size := by rw [str_size hl]; simp
  have hz : ((s[0].toNat : Int) == 48) = false := by
    rw [str_head hl hp]
    refine beq_eq_false_iff_ne.2 fun e => hb (UInt8.toNat_inj.1 ?_)
    have : b.toNat = 48 := by omega
    rw [this]
    rfl
  have ht := Lib.hid (Tryz.trim_ s w (by omega))
  obtain ⟨t, hT⟩ : ∃ t : ByteArray, t = ⟨(Lib.trimS s.data.toList [48, 49, 50, 51, 52, 53, 54, 55, 56, 57]).toArray⟩ := ⟨_, rfl⟩
  have hF : t.toList.isEmpty = false := by
    refine str_empty (l := Lib.trimS (b :: l) tenD) (by rw [hT, hl]; simp [tenD]) fun e => ?_
    rw [trim_nil, ha] at e
    exact absurd e (by simp)
  rw [← hT] at ht
  clear hT
  go_enter Tryz.func8, Tryz.ntmps8
  go_wp2_with fail
  refine ht.out.mono ?_
  rintro e w1 ⟨rfl, hB⟩
  go_wp2
  go_ret2
  exact ⟨rfl, hB⟩

theorem bel_step {n : Nat} {w w1 w2 : World} (h1 : Below n w w1) (h2 : Below w1.heap.size w1 w2) (hn : n ≤ w.heap.size) : Below n w w2 := h1.trans (h2.mono (Nat.le_trans hn h1.size))
def strSize : Value → Nat
  | .string s => s.size
  | _ => 0
theorem dval_lens {l : List UInt8} (q : Nat) (h : l.length ≤ 16 * q) (ha : l.all isDg = true) : (limbs (dval l)).length ≤ q := by
  refine len_limbs_le (Nat.lt_of_lt_of_le (dval_lt l ha) (Nat.le_trans (Nat.pow_le_pow_right (by omega) h) ?_))
  rw [Nat.pow_mul]
  exact Nat.pow_le_pow_left (by decide) q
theorem dval_len {l : List UInt8} (h : l.length ≤ 4096) (ha : l.all isDg = true) : (limbs (dval l)).length ≤ 256 := dval_lens 256 (by omega) ha
theorem ten_len {n : Nat} (h : n ≤ 19) : (limbs (10 ^ n)).length ≤ 1 := by
  refine len_limbs_le ?_
  rw [Nat.pow_one]
  exact Nat.lt_of_le_of_lt (Nat.pow_le_pow_right (by omega) h) (by decide +kernel)
theorem all_part {l : List UInt8} (ha : l.all isDg = true) (a b : Nat) : ((l.drop a).take b).all isDg = true := by
  rw [List.all_eq_true] at ha ⊢
  exact fun x hx => ha x (List.mem_of_mem_drop (List.mem_of_mem_take hx))
theorem all_take {l : List UInt8} (ha : l.all isDg = true) (b : Nat) : (l.take b).all isDg = true := by
  have := all_part ha 0 b
  rwa [List.drop_zero] at this
theorem ext_left {x : ByteArray} {m : List UInt8} (h : x.data.toList = m) (n : Nat) : (x.extract 0 n).data.toList = m.take n := by
  rw [← h]
  simp
theorem ext_right {x : ByteArray} {m : List UInt8} (h : x.data.toList = m) (n : Nat) : (x.extract n x.size).data.toList = m.drop n := by
  rw [← h]
  simp
  exact List.take_of_length_le (by simp)

set_option maxRecDepth 100000 in
set_option maxHeartbeats 4000000 in
theorem gparse_good {w : World} (s : ByteArray) {b : UInt8} {l : List UInt8} (hl : s.data.toList = b :: l) (hs : s.size ≤ 4096) (hb : b ≠ 48 ∨ b :: l = [48]) (ha : (b :: l).all isDg = true) :
    Calls Tryz.prog 8 #[.string s] w fun e w' => ∃ v, e = .returned (.tuple #[v, .int .i64 0]) ∧ IsN w' (new w.heap.size) v (dval (b :: l)) ∧ Below w.heap.size w w' := by
  have hE := str_empty hl (by simp)
  have hp : 0 < s.size := by rw [str_size hl]; simp
  have hN : ((s[0].toNat : Int) == 48) = false ∨ ((s[0].toNat : Int) == 48) = true ∧ (s.toList == [48]) = true := by
    by_cases e : b = 48
    · refine .inr ⟨by rw [str_head hl hp, e]; rfl, ?_⟩
      rw [Lib.toList_data, hl, hb.resolve_left (fun h => h e)]
      rfl
    · refine .inl ?_
      rw [str_head hl hp]
      refine beq_eq_false_iff_ne.2 fun e => hb.elim (fun hb => hb (UInt8.toNat_inj.1 ?_)) ?_
      · have : b.toNat = 48 := by omega
        rw [this]
        rfl
      · exact fun h => absurd (List.cons.inj h).1 ‹_›
  have ht := Lib.hid (Tryz.trim_ s w (by omega))
  obtain ⟨t, hT⟩ : ∃ t : ByteArray, t = ⟨(Lib.trimS s.data.toList [48, 49, 50, 51, 52, 53, 54, 55, 56, 57]).toArray⟩ := ⟨_, rfl⟩
  have hF : t.toList.isEmpty = true := str_none (l := Lib.trimS (b :: l) tenD) (by rw [hT, hl]; simp [tenD]) ((trim_nil _).2 ha)
  rw [← hT] at ht
  clear hT
  have Hlen := Lib.hid (str_size hl)
  have HS := Lib.hid hl
  obtain ⟨L, hL⟩ : ∃ L, L = b :: l := ⟨_, rfl⟩
  rw [← hL] at HS Hlen ha ⊢
  clear hL hl hb
  have Ha := Lib.hid ha
  clear ha
  go_enter Tryz.func8, Tryz.ntmps8
  rcases hN with hz | ⟨hz, hN⟩
  all_goals
    go_wp2_with fail
    refine ht.out.mono ?_
    rintro e w1 ⟨rfl, hB⟩
    go_wp2
    go_loopw [0, 2] (fun u v wr => ∃ (k : Nat) (x : ByteArray), u = .string x ∧ k ≤ s.size ∧ Hid (x.data.toList = L.drop k) ∧ IsN wr (new w.heap.size) v (dval (L.take k)) ∧ Below w.heap.size w wr) (fun u _ _ => strSize u)
    case atStart => exact ⟨0, s, rfl, Nat.zero_le _, HS.out, ⟨none, 0, rfl, U64s.nil _ _⟩, hB⟩
    case round =>
      obtain ⟨k, x, rfl, hk, hx, ho, hbel⟩ := hrel
      have hxs : x.size = s.size - k := by rw [str_size hx.out, List.length_drop, Hlen.out]
      by_cases hkl : k = s.size
      · have hx0 : x.size = 0 := by omega
        have hd0 : decide ((0 : Int) < (x.size : Int)) = false := decide_eq_false (by omega)
        rw [hkl, Hlen.out, List.take_length] at ho
        obtain ⟨Ao, co, rfl, ho⟩ := ho
        go_wp2
        go_ret2
        exact ⟨_, rfl, ⟨Ao, co, rfl, ho⟩, hbel⟩
      · obtain ⟨n, hn⟩ : ∃ n, n = min 19 x.size := ⟨_, rfl⟩
        have hn1 : 0 < n ∧ n ≤ 19 ∧ n ≤ x.size ∧ k + n ≤ s.size := by omega
        obtain ⟨hn0, hn19, hnx, hkn⟩ := hn1
        have hmin : min (19 : Int) (x.size : Int) = (n : Int) := by omega
        have hd1 : decide ((0 : Int) < (x.size : Int)) = true := decide_eq_true (by omega)
        have hd2 : decide (0 < x.size) = true := decide_eq_true (by omega)
        have hcl := ext_left hx.out n
        have hyl : (x.extract n x.size).data.toList = L.drop (k + n) := by rw [ext_right hx.out n, List.drop_drop]
        obtain ⟨c, hc⟩ : ∃ c : ByteArray, c = x.extract 0 n := ⟨_, rfl⟩
        rw [← hc] at hcl
        have hca := all_part Ha.out k n
        have hclen : ((L.drop k).take n).length = n := by rw [List.length_take, List.length_drop, ← Hlen.out]; omega
        obtain ⟨u, hu⟩ : ∃ u, u = dval ((L.drop k).take n) := ⟨_, rfl⟩
        have hpu := Tryz.parseUint_ c (by rw [str_size hcl, hclen]; omega) u (by rw [hcl, hu]; exact puB_digits (List.ne_nil_of_length_pos (by omega)) hca (by omega)) wr
        have hun : u < 10 ^ n := by have := dval_lt _ hca; rwa [hclen, ← hu] at this
        have hu64 : u < 18446744073709551616 := Nat.lt_of_lt_of_le hun (Nat.le_trans (Nat.pow_le_pow_right (by omega) hn19) (by decide +kernel))
        have hnew : dval (L.take k) * 10 ^ n + u = dval (L.take (k + n)) := by
          rw [hu, List.take_add, dval_app, hclen]
        have hl1 := dval_len (l := L.take k) (by rw [List.length_take, ← Hlen.out]; omega) (all_take Ha.out k)
        have hl2 := ten_len hn19
        have hs10 : n * size 10 ≤ 65536 := by
          have : size 10 = 4 := by decide +kernel
          rw [this]
          omega
        have hl3 : (limbs (dval (L.take k) * 10 ^ n)).length ≤ 1000 := by
          refine Nat.le_trans (len_mono (Nat.le_add_right _ u)) ?_
          rw [hnew]
          exact Nat.le_trans (dval_len (l := L.take (k + n)) (by rw [List.length_take, ← Hlen.out]; omega) (all_take Ha.out _)) (by omega)
        have hl4 : (limbs u).length ≤ 1 := len_limbs_le (by rw [Nat.pow_one]; exact hu64)
        have Hpu := Lib.hid hpu
        have Hyl := Lib.hid hyl
        have Hxs := Lib.hid hxs
        have Hnew := Lib.hid hnew
        have Hl1 := Lib.hid hl1
        have Hl2 := Lib.hid hl2
        have Hl3 := Lib.hid hl3
        have Hl4 := Lib.hid hl4
        have Hs10 := Lib.hid hs10
        have Hu64 := Lib.hid hu64
        have Hcc := Lib.hid hc
        rw [hc] at Hpu
        clear hn hcl hyl hc hca hclen hu hpu hun hu64 hnew hl1 hl2 hl3 hl4 hs10 hxs
        go_wp2_with fail
        refine Hpu.out.mono ?_
        rintro e w2 ⟨rfl, hw2⟩
        have hb2 : Below wr.heap.size wr w2 := by
          rcases hw2 with rfl | rfl
          · exact Below.refl _ _
          · exact Lib.bytesWorld_below _ _ _
        clear hw2
        have h10 : IsN (w2.alloc (.cells #[.int .u64 10] 68)) old (.slice (some ⟨w2.heap.size, 0, none⟩) 1 1) 10 := isN_one (by omega) (by omega) (cell_newest rfl rfl)
        have hb3 : Below w2.heap.size w2 (w2.alloc (.cells #[.int .u64 10] 68)) := (Below.refl _ w2).alloc (Nat.le_refl _) _
        have hpow := Lib.hid (pow_good (n := n) h10 (by decide +kernel) (by omega) Hs10.out)
        have Hb3 := Lib.hid hb3
        clear h10 hb3
        go_wp2_with fail
        refine hpow.out.mono ?_
        rintro e w4 ⟨p, rfl, hp4, hb4⟩
        have hB4 : Below wr.heap.size wr w4 := bel_step (bel_step hb2 Hb3.out (Nat.le_refl _)) hb4 (Nat.le_refl _)
        have hmul := Lib.hid (mul_good (ho.below hB4) hp4 (by have := Hl1.out; omega) (by have := Hl2.out; omega))
        have HB4 := Lib.hid hB4
        clear hp4 hb4 hB4 hb2 Hb3 hpow
        go_wp2_with fail
        refine hmul.out.mono ?_
        rintro e w5 ⟨m, rfl, hm5, hb5⟩
        have hB5 : Below wr.heap.size wr w5 := bel_step HB4.out hb5 (Nat.le_refl _)
        have hof := Lib.hid (of_any (w := w5) Hu64.out)
        have HB5 := Lib.hid hB5
        clear hmul hb5 hB5
        go_wp2_with fail
        refine hof.out.mono ?_
        rintro e w6 ⟨q, rfl, hq6, hb6⟩
        have hB6 : Below wr.heap.size wr w6 := bel_step HB5.out hb6 (Nat.le_refl _)
        have hadd := Lib.hid (add_good (hm5.below hb6) hq6 (by have := Hl3.out; omega) (by have := Hl4.out; omega))
        have HB6 := Lib.hid hB6
        clear hof hb6 hB6 hm5 hq6
        go_wp2_with fail
        refine hadd.out.mono ?_
        rintro e w7 ⟨v, rfl, hv7, hb7⟩
        have hB7 : Below wr.heap.size wr w7 := bel_step HB6.out hb7 (Nat.le_refl _)
        rw [Hnew.out] at hv7
        have hle : w.heap.size ≤ w6.heap.size := Nat.le_trans hbel.size HB6.out.size
        have Hv7 := Lib.hid hv7
        have HB7 := Lib.hid hB7
        clear hadd hb7 hB7 hv7
        go_wp2
        go_roundw
        case rel => exact ⟨k + n, x.extract n x.size, rfl, hkn, Hyl.out, Hv7.out.mono (new_le hle), bel_step hbel HB7.out (Nat.le_refl _)⟩
        case measure => 
          show (x.extract n x.size).size < x.size
          rw [str_size Hyl.out, List.length_drop, ← Hlen.out, Hxs.out]
          omega

/-- Parse of any text. -/
theorem gparse_any {w : World} (s : ByteArray) (hs : s.size ≤ 9223372036854775807) :
    Calls Tryz.prog 8 #[.string s] w fun e w' => ∃ v, e = .returned (.tuple #[v, .int .i64 (parseE s.data.toList)]) ∧ IsN w' (new w.heap.size) v (parseN s.data.toList) ∧ Below w.heap.size w w' := by
  by_cases h1 : 4096 < s.size
  · obtain ⟨e1, e2⟩ := parse_long (l := s.data.toList) (by rw [← str_size rfl]; exact h1)
    rw [e1, e2]
    refine (gparse_long s hs h1).mono ?_
    rintro e w1 ⟨rfl, rfl⟩
    exact ⟨_, rfl, IsN.zero _ _, Below.refl _ _⟩
  have h2 : s.data.toList.length ≤ 4096 := by rw [← str_size rfl]; omega
  cases hl : s.data.toList with
  | nil =>
    have hs0 : s = ⟨#[]⟩ := by
      apply ByteArray.ext
      exact Array.toList_inj.1 (by rw [hl])
    obtain ⟨e1, e2⟩ := parse_bad (l := []) (by simp) (fun h => h.2.1 rfl)
    rw [e1, e2, hs0]
    refine gparse_empty.mono ?_
    rintro e w1 ⟨rfl, rfl⟩
    exact ⟨_, rfl, IsN.zero _ _, Below.refl _ _⟩
  | cons b l =>
    rw [hl] at h2
    by_cases ho : okD (b :: l)
    · obtain ⟨e1, e2⟩ := parse_ok ho
      rw [e1, e2]
      refine gparse_good s hl (by omega) ?_ ho.2.2.2
      by_cases hb : b = 48
      · exact .inr (ho.2.2.1 (by rw [hb]; rfl))
      · exact .inl hb
    · obtain ⟨e1, e2⟩ := parse_bad h2 ho
      rw [e1, e2]
      by_cases hb : b = 48
      · by_cases hl0 : l = []
        · exact absurd ⟨h2, by simp, fun _ => by rw [hb, hl0], by rw [hb, hl0]; decide +kernel⟩ ho
        · subst hb
          refine (gparse_nought s hl (by omega) hl0).mono ?_
          rintro e w1 ⟨rfl, rfl⟩
          exact ⟨_, rfl, IsN.zero _ _, Below.refl _ _⟩
      · have ha : (b :: l).all isDg = false := by
          cases e : (b :: l).all isDg with
          | false => rfl
          | true => exact absurd ⟨h2, by simp, fun k => absurd (by simpa using k) hb, e⟩ ho
        refine (gparse_bad s hl (by omega) hb ha).mono ?_
        rintro e w1 ⟨rfl, hB⟩
        exact ⟨_, rfl, IsN.zero _ _, hB⟩
end Go.Proofs.YtceenaegchlbcaaGreatDoor

namespace Go.Proofs.YtceenaegchlbcaaGreatDoor
set_option linter.unusedVariables false
set_option linter.unusedSimpArgs false

/-- Does a minus stand ahead; and what stands behind it. -/
def negL : List UInt8 → Bool
  | 45 :: _ => true
  | _ => false
def restL : List UInt8 → List UInt8
  | 45 :: l => l
  | l => l
def noughtL : List UInt8 → Bool
  | 48 :: _ => true
  | _ => false
theorem has_minus (l : List UInt8) : Lib.hasPrefix l [45] = negL l := by
  cases l with
  | nil => rfl
  | cons b l =>
    unfold Lib.hasPrefix
    by_cases h : b = 45
    · subst h
      simp [negL]
    · have : negL (b :: l) = false := by unfold negL; split <;> simp_all
      rw [this]
      show ((45 == b) && List.isPrefixOf [] l) = false
      rw [beq_eq_false_iff_ne.2 (Ne.symm h)]
      rfl
theorem trim_minus (l : List UInt8) : Lib.trimPrefix l [45] = restL l := by
  unfold Lib.trimPrefix
  rw [has_minus]
  unfold negL restL
  split <;> simp_all
theorem has_nought (l : List UInt8) : Lib.hasPrefix l [48] = noughtL l := by
  cases l with
  | nil => rfl
  | cons b l =>
    unfold Lib.hasPrefix
    by_cases h : b = 48
    · subst h
      simp [noughtL]
    · have : noughtL (b :: l) = false := by unfold noughtL; split <;> simp_all
      rw [this]
      show ((48 == b) && List.isPrefixOf [] l) = false
      rw [beq_eq_false_iff_ne.2 (Ne.symm h)]
      rfl
/-- whole.Parse's error, and the number's words. -/
def wparE (l : List UInt8) : Int := if negL l = true ∧ noughtL (restL l) = true then 8 else parseE (restL l)
theorem wpar_of {l : List UInt8} (h : (negL l && noughtL (restL l)) = false) : wparE l = parseE (restL l) := by
  unfold wparE
  rw [if_neg]
  intro k
  rw [k.1, k.2] at h
  exact absurd h (by simp)
/-- What is parsed is that text. -/
theorem wpar_text {l : List UInt8} (h : wparE l = 0) : okD (restL l) ∧ (negL l = true → dval (restL l) ≠ 0) ∧ (if negL l = true then 45 :: Lib.decDigits (dval (restL l)) else Lib.decDigits (dval (restL l))) = l := by
  have hn : ¬ (negL l = true ∧ noughtL (restL l) = true) := fun k => by
    unfold wparE at h
    rw [if_pos k] at h
    omega
  unfold wparE at h
  rw [if_neg hn] at h
  have ho := parseE_zero.1 h
  refine ⟨ho, fun k e => hn ⟨k, ?_⟩, ?_⟩
  · have e2 := dec_ok ho
    rw [e, Lib.decDigits_one (by omega)] at e2
    rw [← e2]
    rfl
  · rw [dec_ok ho]
    unfold negL restL
    split <;> simp_all
end Go.Proofs.YtceenaegchlbcaaGreatDoor
