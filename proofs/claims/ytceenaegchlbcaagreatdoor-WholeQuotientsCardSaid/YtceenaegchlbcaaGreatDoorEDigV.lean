/-
  The document's own answer, layer 5: Text of any words, Parse of any text. No conditions but bounds on lengths.
-/
import Derived.Test.YtceenaegchlbcaaGreatDoorEDigU
import Derived.Test.YtceenaegchlbcaaGreatDoorEDigS
import Derived.Test.YtceenaegchlbcaaGreatDoorEWhJ
namespace Go.Proofs.YtceenaegchlbcaaGreatDoor
open Go.RowKit
set_option linter.unusedVariables false
set_option linter.unusedSimpArgs false

theorem txt_err {l : List Nat} (h : errT l ≠ 0) : txtT l = [] := by
  unfold errT at h
  unfold txtT
  split
  · rename_i hg
    rw [if_pos hg] at h
    have hn : ¬ (size (val l) ≤ 16384 ∧ (Lib.decDigits (val l)).length ≤ 4096) := fun k => h (text_few k.1 k.2).1
    exact (text_many hn).2
  · rfl
theorem txt_lenV (l : List Nat) : (txtT l).length ≤ 4096 := by
  by_cases h : errT l = 0
  · exact (okD_text h).2.1.1
  · rw [txt_err h]
    simp

set_option maxRecDepth 100000 in
set_option maxHeartbeats 2000000 in
theorem r5text_any {w : World} {Z : Zone} {s : Bool} {l : List Nat} {A : Option Addr} {c : Nat} (u : U64s w Z A c l) (hl : l.length ≤ 20000) :
    Calls Tryz.prog 18 #[.agg #[.bool s, .slice A l.length c]] w fun e w' => e = .returned (.tuple #[strV (wTxtT s l), .int .i64 (wErrT s l)]) ∧ Below w.heap.size w w' := by
  have hB : Below w.heap.size w (w.alloc (.cells #[.bool s, .slice A l.length c] 36)) := (Below.refl _ w).alloc (Nat.le_refl _) _
  obtain ⟨b0, b1, _, _, _⟩ := Box.new w (.bool s) (.slice A l.length c) 36
  have hck := r5may_any (a := .agg #[.bool s, .slice A l.length c]) ⟨_, rfl, A, c, rfl, u.below hB⟩
  have htx : Hid (∀ w1, Below w.heap.size w w1 → Calls Tryz.prog 7 #[.slice A l.length c] w1 fun e w' => e = .returned (.tuple #[strV (txtT l), .int .i64 (errT l)]) ∧ Below w1.heap.size w1 w') := fun w1 h => rtext_all ⟨A, c, rfl, u.below h⟩ hl
  cases ho : okI s l with
  | false =>
    have e1 : wErrT s l = 8 := by unfold wErrT; rw [ho, if_neg (by decide)]
    have e2 : strV (wTxtT s l) = .string ⟨#[]⟩ := by unfold wTxtT; rw [ho, if_neg (by decide)]; try rfl
    rw [e1, e2]
    rw [ho] at hck
    have Hck := Lib.hid hck
    have HB := Lib.hid hB
    clear hck u htx ho e1 e2 hl hB
    generalize l.length = L at *
    go_enter Tryz.func18, Tryz.ntmps18
    go_wp2_with fail
    refine Hck.out.mono ?_
    rintro e w1 ⟨rfl, hc1⟩
    have hB1 := from_ HB.out hc1
    go_wp2
    go_ret2
    exact ⟨rfl, hB1⟩
  | true =>
    rw [ho] at hck
    have e1 : wErrT s l = errT l := by unfold wErrT; rw [if_pos ho]
    have e2 : wTxtT s l = if s = true ∧ errT l = 0 then 45 :: txtT l else txtT l := by unfold wTxtT; rw [if_pos ho]
    rw [e1, e2]
    obtain ⟨x, hx⟩ : ∃ x : ByteArray, x = ⟨(txtT l).toArray⟩ := ⟨_, rfl⟩
    have hxs : x.size ≤ 4096 := by have := txt_lenV l; rw [hx]; simpa [ByteArray.size] using this
    have hxv : strV (txtT l) = .string x := by rw [hx]; try rfl
    have hcat : strV (45 :: txtT l) = .string ((⟨#[45]⟩ : ByteArray) ++ x) := by
      have h9 : (⟨#[45]⟩ : ByteArray) ++ x = ⟨(45 :: txtT l).toArray⟩ := by
        rw [hx]
        apply ByteArray.ext
        simp
      rw [h9]
      try rfl
    rw [hxv] at htx
    have Hck := Lib.hid hck
    have HB := Lib.hid hB
    have hcase : (errT l = 0 ∧ s = true ∧ strV (if s = true ∧ errT l = 0 then 45 :: txtT l else txtT l) = .string ((⟨#[45]⟩ : ByteArray) ++ x)) ∨ (errT l = 0 ∧ s = false ∧ strV (if s = true ∧ errT l = 0 then 45 :: txtT l else txtT l) = .string x) ∨ ((errT l != 0) = true ∧ strV (if s = true ∧ errT l = 0 then 45 :: txtT l else txtT l) = .string ⟨#[]⟩) := by
      by_cases h : errT l = 0
      · cases s
        · exact .inr (.inl ⟨h, rfl, by rw [if_neg (by simp)]; exact hxv⟩)
        · exact .inl ⟨h, rfl, by rw [if_pos ⟨rfl, h⟩]; exact hcat⟩
      · refine .inr (.inr ⟨by simp [h], ?_⟩)
        rw [if_neg (fun k => h k.2), txt_err h]
        try rfl
    clear hck u ho e1 e2 hl hB hx hxv hcat
    generalize hR : strV (if s = true ∧ errT l = 0 then 45 :: txtT l else txtT l) = R at *
    clear hR
    generalize errT l = E at *
    generalize l.length = L at *
    rcases hcase with ⟨rfl, rfl, rfl⟩ | ⟨rfl, rfl, rfl⟩ | ⟨h1, rfl⟩
    all_goals
      go_enter Tryz.func18, Tryz.ntmps18
      go_wp2_with fail
      refine Hck.out.mono ?_
      rintro e w1 ⟨rfl, hc1⟩
      replace b0 := keepC hc1 b0
      replace b1 := keepC hc1 b1
      have hB1 := from_ HB.out hc1
      clear hc1
      go_wp2_with fail
      refine (htx.out _ hB1).mono ?_
      rintro e w2 ⟨rfl, hc2⟩
      replace b0 := keepC hc2 b0
      have hB2 := from_ hB1 hc2
      clear hc2
      go_wp2
      go_ret2
      exact ⟨rfl, hB2⟩

set_option maxRecDepth 100000 in
set_option maxHeartbeats 2000000 in
theorem r5parse_any {w : World} (s : ByteArray) (hs : s.size ≤ 9223372036854775807) :
    Calls Tryz.prog 20 #[.string s] w fun e w' => ∃ A c, e = .returned (.tuple #[.agg #[.bool (wparS s.data.toList), .slice A (wparL s.data.toList).length c], .int .i64 (wparE s.data.toList)]) ∧ U64s w' (new w.heap.size) A c (wparL s.data.toList) ∧ Below w.heap.size w w' := by
  have hcase := wpar_case s.data.toList
  have bR := Box.new w (.bool false) (.slice none 0 0) 36
  have hB0 : Below w.heap.size w (w.alloc (.cells #[.bool false, .slice none 0 0] 36)) := (Below.refl _ w).alloc (Nat.le_refl _) _
  have hpar : ∀ x : ByteArray, x.size ≤ 9223372036854775807 → x.data.toList = restL s.data.toList → ∀ W, Calls Tryz.prog 9 #[.string x] W fun e w' => ∃ v, e = .returned (.tuple #[v, .int .i64 (parseE (restL s.data.toList))]) ∧ IsN w' (new W.heap.size) v (parseN (restL s.data.toList)) ∧ Below W.heap.size W w' := fun x hx he W => by
    have := rparse_any (w := W) x hx
    rw [he] at this
    exact this
  obtain ⟨pe, hpe⟩ : ∃ pe, pe = parseE (restL s.data.toList) := ⟨_, rfl⟩
  obtain ⟨pn, hpn⟩ : ∃ pn, pn = parseN (restL s.data.toList) := ⟨_, rfl⟩
  rw [← hpe, ← hpn] at hcase hpar
  clear hpe hpn
  generalize wparE s.data.toList = WE at *
  generalize wparS s.data.toList = WS at *
  generalize wparL s.data.toList = WL at *
  cases hl : s.data.toList with
  | nil =>
    rw [hl] at hcase hpar
    have hz : decide ((0 : Int) < (s.size : Int)) = false := decide_eq_false (by rw [str_size hl]; simp)
    have hz2 : decide (0 < s.size) = false := decide_eq_false (by rw [str_size hl]; simp)
    have HP := Lib.hid (hpar s hs hl)
    clear hpar hl
    rcases hcase with ⟨h1, _⟩ | ⟨h1, h2, rfl, rfl, rfl⟩ | ⟨h1, rfl, rfl, rfl, rfl, h6⟩
    · cases h1
    · go_enter Tryz.func20, Tryz.ntmps20
      go_wp2_with fail
      refine (HP.out _).mono ?_
      rintro e w1 ⟨v, rfl, hv, hb⟩
      have bR1 := bR.below hb
      have hQ := bR1.put (from_ hB0 hb) (Nat.le_refl _) (.bool false) (.slice none 0 0)
      have HQ := Lib.hid hQ
      obtain ⟨q0, q1, f0, f1, _⟩ := bR1
      obtain ⟨A, c, rfl, hv⟩ := hv
      clear hQ hv bR
      go_wp2
      refine bodyPost_ret (res_int2 rfl _ w.heap.size rfl HQ.out.c0 HQ.out.c1) rfl ?_
      exact ⟨none, 0, rfl, U64s.nil _ _, HQ.out.bel⟩
    · go_enter Tryz.func20, Tryz.ntmps20
      go_wp2_with fail
      refine (HP.out _).mono ?_
      rintro e w1 ⟨v, rfl, hv, hb⟩
      have bR1 := bR.below hb
      obtain ⟨A, c, rfl, hv⟩ := hv
      have hQ := bR1.put (from_ hB0 hb) (Nat.le_refl _) (.bool false) (.slice A (limbs pn).length c)
      have hu2 := hQ.keep (by simp) (⟨A, c, rfl, hv⟩ : IsU w1 _ (.slice A (limbs pn).length c) (limbs pn))
      have Hu := Lib.hid hu2
      have HQ := Lib.hid hQ
      obtain ⟨q0, q1, f0, f1, _⟩ := bR1
      clear hQ hv bR hu2
      go_wp2
      refine bodyPost_ret (res_int2 rfl _ w.heap.size rfl HQ.out.c0 HQ.out.c1) rfl ?_
      obtain ⟨A', c', e', hu⟩ := Hu.out
      injection e' with e1 _ e3
      subst e1 e3
      exact ⟨_, _, rfl, hu, HQ.out.bel⟩
  | cons b l =>
    have hp : 0 < s.size := by rw [str_size hl]; simp
    have hp1 : 1 ≤ s.size := hp
    have hz : decide ((0 : Int) < (s.size : Int)) = true := decide_eq_true (by omega)
    have hz2 : decide (0 < s.size) = true := decide_eq_true (by omega)
    by_cases hb : b = 45
    · subst hb
      have hc : ((s[0].toNat : Int) == 45) = true := by rw [str_head hl hp]; rfl
      rw [hl] at hcase hpar
      obtain ⟨x, hx⟩ : ∃ x : ByteArray, x = s.extract 1 s.size := ⟨_, rfl⟩
      have hxl : x.data.toList = l := by rw [hx, ext_right hl 1]; rfl
      have hxs : x.size ≤ 9223372036854775807 := by rw [str_size hxl]; rw [str_size hl] at hs; simp at hs; omega
      have HP := Lib.hid (hpar x hxs hxl)
      have hxr : s.extract 1 s.size = x := hx.symm
      clear hpar
      have hn : restL (45 :: l) = l := rfl
      have hng : negL (45 :: l) = true := rfl
      rw [hn, hng] at hcase
      rcases hcase with ⟨_, h1, rfl, rfl, rfl⟩ | ⟨h1, h2, rfl, rfl, rfl⟩ | ⟨h1, rfl, rfl, rfl, rfl, h6⟩
      · cases l with
        | nil => cases h1
        | cons b2 l2 =>
          have hb2 : b2 = 48 := by unfold noughtL at h1; split at h1 <;> simp_all
          subst hb2
          have hxp : 0 < x.size := by rw [str_size hxl]; simp
          have hxz : decide ((0 : Int) < (x.size : Int)) = true := decide_eq_true (by omega)
          have hxz2 : decide (0 < x.size) = true := decide_eq_true (by omega)
          have hxc : ((x[0].toNat : Int) == 48) = true := by rw [str_head hxl hxp]; rfl
          have hw1 : ∃ W, W = w.alloc (.cells #[.bool false, .slice none 0 0] 36) := ⟨_, rfl⟩
          clear HP hl hx hxl h1
          go_enter Tryz.func20, Tryz.ntmps20
          go_wp2
          refine bodyPost_ret (res_int2 rfl _ w.heap.size rfl (cell_newest rfl rfl) (cell_newest rfl rfl)) rfl ?_
          exact ⟨none, 0, rfl, U64s.nil _ _, hB0⟩
      · cases l with
        | nil =>
          have hxz : decide ((0 : Int) < (x.size : Int)) = false := decide_eq_false (by rw [str_size hxl]; simp)
          have hxz2 : decide (0 < x.size) = false := decide_eq_false (by rw [str_size hxl]; simp)
          clear hl hx hxl h1
          go_enter Tryz.func20, Tryz.ntmps20
          go_wp2_with fail
          refine (HP.out _).mono ?_
          rintro e w1 ⟨v, rfl, hv, hb⟩
          have bR1 := bR.below hb
          have hQ := bR1.put (from_ hB0 hb) (Nat.le_refl _) (.bool false) (.slice none 0 0)
          have HQ := Lib.hid hQ
          obtain ⟨q0, q1, f0, f1, _⟩ := bR1
          obtain ⟨A, c, rfl, hv⟩ := hv
          clear hQ hv bR
          go_wp2
          refine bodyPost_ret (res_int2 rfl _ w.heap.size rfl HQ.out.c0 HQ.out.c1) rfl ?_
          exact ⟨none, 0, rfl, U64s.nil _ _, HQ.out.bel⟩
        | cons b2 l2 =>
          have hxp : 0 < x.size := by rw [str_size hxl]; simp
          have hxz : decide ((0 : Int) < (x.size : Int)) = true := decide_eq_true (by omega)
          have hxz2 : decide (0 < x.size) = true := decide_eq_true (by omega)
          have hb2 : b2 ≠ 48 := fun e => by subst e; rcases h1 with ⟨_, h1⟩ | h1 <;> cases h1
          have hxc : ((x[0].toNat : Int) == 48) = false := by
            rw [str_head hxl hxp]
            refine beq_eq_false_iff_ne.2 fun e => hb2 (UInt8.toNat_inj.1 ?_)
            have : b2.toNat = 48 := by omega
            rw [this]
            rfl
          clear hl hx hxl h1 hb2
          go_enter Tryz.func20, Tryz.ntmps20
          go_wp2_with fail
          refine (HP.out _).mono ?_
          rintro e w1 ⟨v, rfl, hv, hb⟩
          have bR1 := bR.below hb
          have hQ := bR1.put (from_ hB0 hb) (Nat.le_refl _) (.bool false) (.slice none 0 0)
          have HQ := Lib.hid hQ
          obtain ⟨q0, q1, f0, f1, _⟩ := bR1
          obtain ⟨A, c, rfl, hv⟩ := hv
          clear hQ hv bR
          go_wp2
          refine bodyPost_ret (res_int2 rfl _ w.heap.size rfl HQ.out.c0 HQ.out.c1) rfl ?_
          exact ⟨none, 0, rfl, U64s.nil _ _, HQ.out.bel⟩
      · cases l with
        | nil =>
          have hxz : decide ((0 : Int) < (x.size : Int)) = false := decide_eq_false (by rw [str_size hxl]; simp)
          have hxz2 : decide (0 < x.size) = false := decide_eq_false (by rw [str_size hxl]; simp)
          clear hl hx hxl h1
          go_enter Tryz.func20, Tryz.ntmps20
          go_wp2_with fail
          refine (HP.out _).mono ?_
          rintro e w1 ⟨v, rfl, hv, hb⟩
          have bR1 := bR.below hb
          obtain ⟨A, c, rfl, hv⟩ := hv
          have hQ := bR1.put (from_ hB0 hb) (Nat.le_refl _) (.bool true) (.slice A (limbs pn).length c)
          have hu2 := hQ.keep (by simp) (⟨A, c, rfl, hv⟩ : IsU w1 _ (.slice A (limbs pn).length c) (limbs pn))
          have Hu := Lib.hid hu2
          have HQ := Lib.hid hQ
          obtain ⟨q0, q1, f0, f1, _⟩ := bR1
          clear hQ hv bR hu2
          go_wp2
          refine bodyPost_ret (res_int2 rfl _ w.heap.size rfl HQ.out.c0 HQ.out.c1) rfl ?_
          obtain ⟨A', c', e', hu⟩ := Hu.out
          injection e' with e1 _ e3
          subst e1 e3
          exact ⟨_, _, rfl, hu, HQ.out.bel⟩
        | cons b2 l2 =>
          have hxp : 0 < x.size := by rw [str_size hxl]; simp
          have hxz : decide ((0 : Int) < (x.size : Int)) = true := decide_eq_true (by omega)
          have hxz2 : decide (0 < x.size) = true := decide_eq_true (by omega)
          have hb2 : b2 ≠ 48 := fun e => by subst e; rcases h1 with ⟨_, h1⟩ | h1 <;> cases h1
          have hxc : ((x[0].toNat : Int) == 48) = false := by
            rw [str_head hxl hxp]
            refine beq_eq_false_iff_ne.2 fun e => hb2 (UInt8.toNat_inj.1 ?_)
            have : b2.toNat = 48 := by omega
            rw [this]
            rfl
          clear hl hx hxl h1 hb2
          go_enter Tryz.func20, Tryz.ntmps20
          go_wp2_with fail
          refine (HP.out _).mono ?_
          rintro e w1 ⟨v, rfl, hv, hb⟩
          have bR1 := bR.below hb
          obtain ⟨A, c, rfl, hv⟩ := hv
          have hQ := bR1.put (from_ hB0 hb) (Nat.le_refl _) (.bool true) (.slice A (limbs pn).length c)
          have hu2 := hQ.keep (by simp) (⟨A, c, rfl, hv⟩ : IsU w1 _ (.slice A (limbs pn).length c) (limbs pn))
          have Hu := Lib.hid hu2
          have HQ := Lib.hid hQ
          obtain ⟨q0, q1, f0, f1, _⟩ := bR1
          clear hQ hv bR hu2
          go_wp2
          refine bodyPost_ret (res_int2 rfl _ w.heap.size rfl HQ.out.c0 HQ.out.c1) rfl ?_
          obtain ⟨A', c', e', hu⟩ := Hu.out
          injection e' with e1 _ e3
          subst e1 e3
          exact ⟨_, _, rfl, hu, HQ.out.bel⟩
    · have hbn : b.toNat ≠ 45 := fun e => hb (UInt8.toNat_inj.1 (by rw [e]; rfl))
      have hc : ((s[0].toNat : Int) == 45) = false := by rw [str_head hl hp]; exact beq_eq_false_iff_ne.2 (by omega)
      have hng : negL s.data.toList = false := by rw [hl]; unfold negL; split <;> simp_all
      have hn : restL s.data.toList = s.data.toList := by rw [hl]; unfold restL; split <;> simp_all
      have HP := Lib.hid (hpar s hs hn.symm)
      rw [hng] at hcase
      clear hpar hl hng hn hb hbn
      rcases hcase with ⟨h1, _⟩ | ⟨h1, h2, rfl, rfl, rfl⟩ | ⟨h1, rfl, rfl, rfl, rfl, h6⟩
      · cases h1
      · go_enter Tryz.func20, Tryz.ntmps20
        go_wp2_with fail
        refine (HP.out _).mono ?_
        rintro e w1 ⟨v, rfl, hv, hb⟩
        have bR1 := bR.below hb
        have hQ := bR1.put (from_ hB0 hb) (Nat.le_refl _) (.bool false) (.slice none 0 0)
        have HQ := Lib.hid hQ
        obtain ⟨q0, q1, f0, f1, _⟩ := bR1
        obtain ⟨A, c, rfl, hv⟩ := hv
        clear hQ hv bR
        go_wp2
        refine bodyPost_ret (res_int2 rfl _ w.heap.size rfl HQ.out.c0 HQ.out.c1) rfl ?_
        exact ⟨none, 0, rfl, U64s.nil _ _, HQ.out.bel⟩
      · go_enter Tryz.func20, Tryz.ntmps20
        go_wp2_with fail
        refine (HP.out _).mono ?_
        rintro e w1 ⟨v, rfl, hv, hb⟩
        have bR1 := bR.below hb
        obtain ⟨A, c, rfl, hv⟩ := hv
        have hQ := bR1.put (from_ hB0 hb) (Nat.le_refl _) (.bool false) (.slice A (limbs pn).length c)
        have hu2 := hQ.keep (by simp) (⟨A, c, rfl, hv⟩ : IsU w1 _ (.slice A (limbs pn).length c) (limbs pn))
        have Hu := Lib.hid hu2
        have HQ := Lib.hid hQ
        obtain ⟨q0, q1, f0, f1, _⟩ := bR1
        clear hQ hv bR hu2
        go_wp2
        refine bodyPost_ret (res_int2 rfl _ w.heap.size rfl HQ.out.c0 HQ.out.c1) rfl ?_
        obtain ⟨A', c', e', hu⟩ := Hu.out
        injection e' with e1 _ e3
        subst e1 e3
        exact ⟨_, _, rfl, hu, HQ.out.bel⟩
end Go.Proofs.YtceenaegchlbcaaGreatDoor
