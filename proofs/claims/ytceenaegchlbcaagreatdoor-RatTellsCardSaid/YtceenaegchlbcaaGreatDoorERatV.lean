/-
  The document's own answer, layer 5: Text of any words, Parse of any text. No conditions but bounds on lengths.
  Fractions: rat.Mul, Div, Floor, Ceil of what is none; both packages' Text at any words. No conditions but bounds on lengths.
  Fractions: rat.Same at any words; what rat and the document answer, in pairs. No conditions but bounds on lengths.
-/
import Derived.Test.YtceenaegchlbcaaGreatDoorEDigU
import Derived.Test.YtceenaegchlbcaaGreatDoorEDigS
import Derived.Test.YtceenaegchlbcaaGreatDoorEWhJ
import Derived.Test.YtceenaegchlbcaaGreatDoorERatR
namespace Go.Proofs.YtceenaegchlbcaaGreatDoor
open Go.RowKit
set_option linter.unusedVariables false
set_option linter.unusedSimpArgs false

theorem txt_err {l : List Nat} (h : errT l ≠ 0) : txtT l = [] := by
  unfold errT at h
  unfold txtT
  split
  · rename_i hg
    rw [if_pos hg] at h
    have hn : ¬ (size (val l) ≤ 16384 ∧ (Lib.decDigits (val l)).length ≤ 4096) := fun k => h (text_few k.1 k.2).1
    exact (text_many hn).2
  · rfl
theorem txt_lenV (l : List Nat) : (txtT l).length ≤ 4096 := by
  by_cases h : errT l = 0
  · exact (okD_text h).2.1.1
  · rw [txt_err h]
    simp

set_option maxRecDepth 100000 in
set_option maxHeartbeats 2000000 in
theorem r5text_any {w : World} {Z : Zone} {s : Bool} {l : List Nat} {A : Option Addr} {c : Nat} (u : U64s w Z A c l) (hl : l.length ≤ 20000) :
    Calls Tryz.prog 18 #[.agg #[.bool s, .slice A l.length c]] w fun e w' => e = .returned (.tuple #[strV (wTxtT s l), .int .i64 (wErrT s l)]) ∧ Below w.heap.size w w' := by
  have hB : Below w.heap.size w (w.alloc (.cells #[.bool s, .slice A l.length c] 36)) := (Below.refl _ w).alloc (Nat.le_refl _) _
  obtain ⟨b0, b1, _, _, _⟩ := Box.new w (.bool s) (.slice A l.length c) 36
  have hck := r5may_any (a := .agg #[.bool s, .slice A l.length c]) ⟨_, rfl, A, c, rfl, u.below hB⟩
  have htx : Hid (∀ w1, Below w.heap.size w w1 → Calls Tryz.prog 7 #[.slice A l.length c] w1 fun e w' => e = .returned (.tuple #[strV (txtT l), .int .i64 (errT l)]) ∧ Below w1.heap.size w1 w') := fun w1 h => rtext_all ⟨A, c, rfl, u.below h⟩ hl
  cases ho : okI s l with
  | false =>
    have e1 : wErrT s l = 8 := by unfold wErrT; rw [ho, if_neg (by decide)]
    have e2 : strV (wTxtT s l) = .string ⟨#[]⟩ := by unfold wTxtT; rw [ho, if_neg (by decide)]; try rfl
    rw [e1, e2]
    rw [ho] at hck
    have Hck := Lib.hid hck
    have HB := Lib.hid hB
    clear hck u htx ho e1 e2 hl hB
    generalize l.length = L at *
    go_enter Tryz.func18, Tryz.ntmps18
    go_wp2_with fail
    refine Hck.out.mono ?_
    rintro e w1 ⟨rfl, hc1⟩
    have hB1 := from_ HB.out hc1
    go_wp2
    go_ret2
    exact ⟨rfl, hB1⟩
  | true =>
    rw [ho] at hck
    have e1 : wErrT s l = errT l := by unfold wErrT; rw [if_pos ho]
    have e2 : wTxtT s l = if s = true ∧ errT l = 0 then 45 :: txtT l else txtT l := by unfold wTxtT; rw [if_pos ho]
    rw [e1, e2]
    obtain ⟨x, hx⟩ : ∃ x : ByteArray, x = ⟨(txtT l).toArray⟩ := ⟨_, rfl⟩
    have hxs : x.size ≤ 4096 := by have := txt_lenV l; rw [hx]; simpa [ByteArray.size] using this
    have hxv : strV (txtT l) = .string x := by rw [hx]; try rfl
    have hcat : strV (45 :: txtT l) = .string ((⟨#[45]⟩ : ByteArray) ++ x) := by
      have h9 : (⟨#[45]⟩ : ByteArray) ++ x = ⟨(45 :: txtT l).toArray⟩ := by
        rw [hx]
        apply ByteArray.ext
        simp
      rw [h9]
      try rfl
    rw [hxv] at htx
    have Hck := Lib.hid hck
    have HB := Lib.hid hB
    have hcase : (errT l = 0 ∧ s = true ∧ strV (if s = true ∧ errT l = 0 then 45 :: txtT l else txtT l) = .string ((⟨#[45]⟩ : ByteArray) ++ x)) ∨ (errT l = 0 ∧ s = false ∧ strV (if s = true ∧ errT l = 0 then 45 :: txtT l else txtT l) = .string x) ∨ ((errT l != 0) = true ∧ strV (if s = true ∧ errT l = 0 then 45 :: txtT l else txtT l) = .string ⟨#[]⟩) := by
      by_cases h : errT l = 0
      · cases s
        · exact .inr (.inl ⟨h, rfl, by rw [if_neg (by simp)]; exact hxv⟩)
        · exact .inl ⟨h, rfl, by rw [if_pos ⟨rfl, h⟩]; exact hcat⟩
      · refine .inr (.inr ⟨by simp [h], ?_⟩)
        rw [if_neg (fun k => h k.2), txt_err h]
        try rfl
    clear hck u ho e1 e2 hl hB hx hxv hcat
    generalize hR : strV (if s = true ∧ errT l = 0 then 45 :: txtT l else txtT l) = R at *
    clear hR
    generalize errT l = E at *
    generalize l.length = L at *
    rcases hcase with ⟨rfl, rfl, rfl⟩ | ⟨rfl, rfl, rfl⟩ | ⟨h1, rfl⟩
    all_goals
      go_enter Tryz.func18, Tryz.ntmps18
      go_wp2_with fail
      refine Hck.out.mono ?_
      rintro e w1 ⟨rfl, hc1⟩
      replace b0 := keepC hc1 b0
      replace b1 := keepC hc1 b1
      have hB1 := from_ HB.out hc1
      clear hc1
      go_wp2_with fail
      refine (htx.out _ hB1).mono ?_
      rintro e w2 ⟨rfl, hc2⟩
      replace b0 := keepC hc2 b0
      have hB2 := from_ hB1 hc2
      clear hc2
      go_wp2
      go_ret2
      exact ⟨rfl, hB2⟩

set_option maxRecDepth 100000 in
set_option maxHeartbeats 2000000 in
theorem r5parse_any {w : World} (s : ByteArray) (hs : s.size ≤ 9223372036854775807) :
    Calls Tryz.prog 20 #[.string s] w fun e w' => ∃ A c, e = .returned (.tuple #[.agg #[.bool (wparS s.data.toList), .slice A (wparL s.data.toList).length c], .int .i64 (wparE s.data.toList)]) ∧ U64s w' (new w.heap.size) A c (wparL s.data.toList) ∧ Below w.heap.size w w' := by
  have hcase := wpar_case s.data.toList
  have bR := Box.new w (.bool false) (.slice none 0 0) 36
  have hB0 : Below w.heap.size w (w.alloc (.cells #[.bool false, .slice none 0 0] 36)) := (Below.refl _ w).alloc (Nat.le_refl _) _
  have hpar : ∀ x : ByteArray, x.size ≤ 9223372036854775807 → x.data.toList = restL s.data.toList → ∀ W, Calls Tryz.prog 9 #[.string x] W fun e w' => ∃ v, e = .returned (.tuple #[v, .int .i64 (parseE (restL s.data.toList))]) ∧ IsN w' (new W.heap.size) v (parseN (restL s.data.toList)) ∧ Below W.heap.size W w' := fun x hx he W => by
    have := rparse_any (w := W) x hx
    rw [he] at this
    exact this
  obtain ⟨pe, hpe⟩ : ∃ pe, pe = parseE (restL s.data.toList) := ⟨_, rfl⟩
  obtain ⟨pn, hpn⟩ : ∃ pn, pn = parseN (restL s.data.toList) := ⟨_, rfl⟩
  rw [← hpe, ← hpn] at hcase hpar
  clear hpe hpn
  generalize wparE s.data.toList = WE at *
  generalize wparS s.data.toList = WS at *
  generalize wparL s.data.toList = WL at *
  cases hl : s.data.toList with
  | nil =>
    rw [hl] at hcase hpar
    have hz : decide ((0 : Int) < (s.size : Int)) = false := decide_eq_false (by rw [str_size hl]; simp)
    have hz2 : decide (0 < s.size) = false := decide_eq_false (by rw [str_size hl]; simp)
    have HP := Lib.hid (hpar s hs hl)
    clear hpar hl
    rcases hcase with ⟨h1, _⟩ | ⟨h1, h2, rfl, rfl, rfl⟩ | ⟨h1, rfl, rfl, rfl, rfl, h6⟩
    · cases h1
    · go_enter Tryz.func20, Tryz.ntmps20
      go_wp2_with fail
      refine (HP.out _).mono ?_
      rintro e w1 ⟨v, rfl, hv, hb⟩
      have bR1 := bR.below hb
      have hQ := bR1.put (from_ hB0 hb) (Nat.le_refl _) (.bool false) (.slice none 0 0)
      have HQ := Lib.hid hQ
      obtain ⟨q0, q1, f0, f1, _⟩ := bR1
      obtain ⟨A, c, rfl, hv⟩ := hv
      clear hQ hv bR
      go_wp2
      refine bodyPost_ret (res_int2 rfl _ w.heap.size rfl HQ.out.c0 HQ.out.c1) rfl ?_
      exact ⟨none, 0, rfl, U64s.nil _ _, HQ.out.bel⟩
    · go_enter Tryz.func20, Tryz.ntmps20
      go_wp2_with fail
      refine (HP.out _).mono ?_
      rintro e w1 ⟨v, rfl, hv, hb⟩
      have bR1 := bR.below hb
      obtain ⟨A, c, rfl, hv⟩ := hv
      have hQ := bR1.put (from_ hB0 hb) (Nat.le_refl _) (.bool false) (.slice A (limbs pn).length c)
      have hu2 := hQ.keep (by simp) (⟨A, c, rfl, hv⟩ : IsU w1 _ (.slice A (limbs pn).length c) (limbs pn))
      have Hu := Lib.hid hu2
      have HQ := Lib.hid hQ
      obtain ⟨q0, q1, f0, f1, _⟩ := bR1
      clear hQ hv bR hu2
      go_wp2
      refine bodyPost_ret (res_int2 rfl _ w.heap.size rfl HQ.out.c0 HQ.out.c1) rfl ?_
      obtain ⟨A', c', e', hu⟩ := Hu.out
      injection e' with e1 _ e3
      subst e1 e3
      exact ⟨_, _, rfl, hu, HQ.out.bel⟩
  | cons b l =>
    have hp : 0 < s.size := by rw [str_size hl]; simp
    have hp1 : 1 ≤ s.size := hp
    have hz : decide ((0 : Int) < (s.size : Int)) = true := decide_eq_true (by omega)
    have hz2 : decide (0 < s.size) = true := decide_eq_true (by omega)
    by_cases hb : b = 45
    · subst hb
      have hc : ((s[0].toNat : Int) == 45) = true := by rw [str_head hl hp]; rfl
      rw [hl] at hcase hpar
      obtain ⟨x, hx⟩ : ∃ x : ByteArray, x = s.extract 1 s.size := ⟨_, rfl⟩
      have hxl : x.data.toList = l := by rw [hx, ext_right hl 1]; rfl
      have hxs : x.size ≤ 9223372036854775807 := by rw [str_size hxl]; rw [str_size hl] at hs; simp at hs; omega
      have HP := Lib.hid (hpar x hxs hxl)
      have hxr : s.extract 1 s.size = x := hx.symm
      clear hpar
      have hn : restL (45 :: l) = l := rfl
      have hng : negL (45 :: l) = true := rfl
      rw [hn, hng] at hcase
      rcases hcase with ⟨_, h1, rfl, rfl, rfl⟩ | ⟨h1, h2, rfl, rfl, rfl⟩ | ⟨h1, rfl, rfl, rfl, rfl, h6⟩
      · cases l with
        | nil => cases h1
        | cons b2 l2 =>
          have hb2 : b2 = 48 := by unfold noughtL at h1; split at h1 <;> simp_all
          subst hb2
          have hxp : 0 < x.size := by rw [str_size hxl]; simp
          have hxz : decide ((0 : Int) < (x.size : Int)) = true := decide_eq_true (by omega)
          have hxz2 : decide (0 < x.size) = true := decide_eq_true (by omega)
          have hxc : ((x[0].toNat : Int) == 48) = true := by rw [str_head hxl hxp]; rfl
          have hw1 : ∃ W, W = w.alloc (.cells #[.bool false, .slice none 0 0] 36) := ⟨_, rfl⟩
          clear HP hl hx hxl h1
          go_enter Tryz.func20, Tryz.ntmps20
          go_wp2
          refine bodyPost_ret (res_int2 rfl _ w.heap.size rfl (cell_newest rfl rfl) (cell_newest rfl rfl)) rfl ?_
          exact ⟨none, 0, rfl, U64s.nil _ _, hB0⟩
      · cases l with
        | nil =>
          have hxz : decide ((0 : Int) < (x.size : Int)) = false := decide_eq_false (by rw [str_size hxl]; simp)
          have hxz2 : decide (0 < x.size) = false := decide_eq_false (by rw [str_size hxl]; simp)
          clear hl hx hxl h1
          go_enter Tryz.func20, Tryz.ntmps20
          go_wp2_with fail
          refine (HP.out _).mono ?_
          rintro e w1 ⟨v, rfl, hv, hb⟩
          have bR1 := bR.below hb
          have hQ := bR1.put (from_ hB0 hb) (Nat.le_refl _) (.bool false) (.slice none 0 0)
          have HQ := Lib.hid hQ
          obtain ⟨q0, q1, f0, f1, _⟩ := bR1
          obtain ⟨A, c, rfl, hv⟩ := hv
          clear hQ hv bR
          go_wp2
          refine bodyPost_ret (res_int2 rfl _ w.heap.size rfl HQ.out.c0 HQ.out.c1) rfl ?_
          exact ⟨none, 0, rfl, U64s.nil _ _, HQ.out.bel⟩
        | cons b2 l2 =>
          have hxp : 0 < x.size := by rw [str_size hxl]; simp
          have hxz : decide ((0 : Int) < (x.size : Int)) = true := decide_eq_true (by omega)
          have hxz2 : decide (0 < x.size) = true := decide_eq_true (by omega)
          have hb2 : b2 ≠ 48 := fun e => by subst e; rcases h1 with ⟨_, h1⟩ | h1 <;> cases h1
          have hxc : ((x[0].toNat : Int) == 48) = false := by
            rw [str_head hxl hxp]
            refine beq_eq_false_iff_ne.2 fun e => hb2 (UInt8.toNat_inj.1 ?_)
            have : b2.toNat = 48 := by omega
            rw [this]
            rfl
          clear hl hx hxl h1 hb2
          go_enter Tryz.func20, Tryz.ntmps20
          go_wp2_with fail
          refine (HP.out _).mono ?_
          rintro e w1 ⟨v, rfl, hv, hb⟩
          have bR1 := bR.below hb
          have hQ := bR1.put (from_ hB0 hb) (Nat.le_refl _) (.bool false) (.slice none 0 0)
          have HQ := Lib.hid hQ
          obtain ⟨q0, q1, f0, f1, _⟩ := bR1
          obtain ⟨A, c, rfl, hv⟩ := hv
          clear hQ hv bR
          go_wp2
          refine bodyPost_ret (res_int2 rfl _ w.heap.size rfl HQ.out.c0 HQ.out.c1) rfl ?_
          exact ⟨none, 0, rfl, U64s.nil _ _, HQ.out.bel⟩
      · cases l with
        | nil =>
          have hxz : decide ((0 : Int) < (x.size : Int)) = false := decide_eq_false (by rw [str_size hxl]; simp)
          have hxz2 : decide (0 < x.size) = false := decide_eq_false (by rw [str_size hxl]; simp)
          clear hl hx hxl h1
          go_enter Tryz.func20, Tryz.ntmps20
          go_wp2_with fail
          refine (HP.out _).mono ?_
          rintro e w1 ⟨v, rfl, hv, hb⟩
          have bR1 := bR.below hb
          obtain ⟨A, c, rfl, hv⟩ := hv
          have hQ := bR1.put (from_ hB0 hb) (Nat.le_refl _) (.bool true) (.slice A (limbs pn).length c)
          have hu2 := hQ.keep (by simp) (⟨A, c, rfl, hv⟩ : IsU w1 _ (.slice A (limbs pn).length c) (limbs pn))
          have Hu := Lib.hid hu2
          have HQ := Lib.hid hQ
          obtain ⟨q0, q1, f0, f1, _⟩ := bR1
          clear hQ hv bR hu2
          go_wp2
          refine bodyPost_ret (res_int2 rfl _ w.heap.size rfl HQ.out.c0 HQ.out.c1) rfl ?_
          obtain ⟨A', c', e', hu⟩ := Hu.out
          injection e' with e1 _ e3
          subst e1 e3
          exact ⟨_, _, rfl, hu, HQ.out.bel⟩
        | cons b2 l2 =>
          have hxp : 0 < x.size := by rw [str_size hxl]; simp
          have hxz : decide ((0 : Int) < (x.size : Int)) = true := decide_eq_true (by omega)
          have hxz2 : decide (0 < x.size) = true := decide_eq_true (by omega)
          have hb2 : b2 ≠ 48 := fun e => by subst e; rcases h1 with ⟨_, h1⟩ | h1 <;> cases h1
          have hxc : ((x[0].toNat : Int) == 48) = false := by
            rw [str_head hxl hxp]
            refine beq_eq_false_iff_ne.2 fun e => hb2 (UInt8.toNat_inj.1 ?_)
            have : b2.toNat = 48 := by omega
            rw [this]
            rfl
          clear hl hx hxl h1 hb2
          go_enter Tryz.func20, Tryz.ntmps20
          go_wp2_with fail
          refine (HP.out _).mono ?_
          rintro e w1 ⟨v, rfl, hv, hb⟩
          have bR1 := bR.below hb
          obtain ⟨A, c, rfl, hv⟩ := hv
          have hQ := bR1.put (from_ hB0 hb) (Nat.le_refl _) (.bool true) (.slice A (limbs pn).length c)
          have hu2 := hQ.keep (by simp) (⟨A, c, rfl, hv⟩ : IsU w1 _ (.slice A (limbs pn).length c) (limbs pn))
          have Hu := Lib.hid hu2
          have HQ := Lib.hid hQ
          obtain ⟨q0, q1, f0, f1, _⟩ := bR1
          clear hQ hv bR hu2
          go_wp2
          refine bodyPost_ret (res_int2 rfl _ w.heap.size rfl HQ.out.c0 HQ.out.c1) rfl ?_
          obtain ⟨A', c', e', hu⟩ := Hu.out
          injection e' with e1 _ e3
          subst e1 e3
          exact ⟨_, _, rfl, hu, HQ.out.bel⟩
    · have hbn : b.toNat ≠ 45 := fun e => hb (UInt8.toNat_inj.1 (by rw [e]; rfl))
      have hc : ((s[0].toNat : Int) == 45) = false := by rw [str_head hl hp]; exact beq_eq_false_iff_ne.2 (by omega)
      have hng : negL s.data.toList = false := by rw [hl]; unfold negL; split <;> simp_all
      have hn : restL s.data.toList = s.data.toList := by rw [hl]; unfold restL; split <;> simp_all
      have HP := Lib.hid (hpar s hs hn.symm)
      rw [hng] at hcase
      clear hpar hl hng hn hb hbn
      rcases hcase with ⟨h1, _⟩ | ⟨h1, h2, rfl, rfl, rfl⟩ | ⟨h1, rfl, rfl, rfl, rfl, h6⟩
      · cases h1
      · go_enter Tryz.func20, Tryz.ntmps20
        go_wp2_with fail
        refine (HP.out _).mono ?_
        rintro e w1 ⟨v, rfl, hv, hb⟩
        have bR1 := bR.below hb
        have hQ := bR1.put (from_ hB0 hb) (Nat.le_refl _) (.bool false) (.slice none 0 0)
        have HQ := Lib.hid hQ
        obtain ⟨q0, q1, f0, f1, _⟩ := bR1
        obtain ⟨A, c, rfl, hv⟩ := hv
        clear hQ hv bR
        go_wp2
        refine bodyPost_ret (res_int2 rfl _ w.heap.size rfl HQ.out.c0 HQ.out.c1) rfl ?_
        exact ⟨none, 0, rfl, U64s.nil _ _, HQ.out.bel⟩
      · go_enter Tryz.func20, Tryz.ntmps20
        go_wp2_with fail
        refine (HP.out _).mono ?_
        rintro e w1 ⟨v, rfl, hv, hb⟩
        have bR1 := bR.below hb
        obtain ⟨A, c, rfl, hv⟩ := hv
        have hQ := bR1.put (from_ hB0 hb) (Nat.le_refl _) (.bool false) (.slice A (limbs pn).length c)
        have hu2 := hQ.keep (by simp) (⟨A, c, rfl, hv⟩ : IsU w1 _ (.slice A (limbs pn).length c) (limbs pn))
        have Hu := Lib.hid hu2
        have HQ := Lib.hid hQ
        obtain ⟨q0, q1, f0, f1, _⟩ := bR1
        clear hQ hv bR hu2
        go_wp2
        refine bodyPost_ret (res_int2 rfl _ w.heap.size rfl HQ.out.c0 HQ.out.c1) rfl ?_
        obtain ⟨A', c', e', hu⟩ := Hu.out
        injection e' with e1 _ e3
        subst e1 e3
        exact ⟨_, _, rfl, hu, HQ.out.bel⟩
end Go.Proofs.YtceenaegchlbcaaGreatDoor

namespace Go.Proofs.YtceenaegchlbcaaGreatDoor
open Go.RowKit
set_option linter.unusedVariables false
set_option linter.unusedSimpArgs false

set_option maxRecDepth 100000 in
set_option maxHeartbeats 2000000 in
theorem rmul_bad {w : World} {Z1 Z2 Z3 Z4 : Zone} {s t : Bool} {l k l' k' : List Nat} {A B C D : Option Addr} {a b c d : Nat} (u1 : U64s w Z1 A a l) (u2 : U64s w Z2 B b k) (u3 : U64s w Z3 C c l') (u4 : U64s w Z4 D d k') (q1 : l.length ≤ 2000) (q2 : k.length ≤ 2000) (q3 : l'.length ≤ 2000) (q4 : k'.length ≤ 2000) (ho : ¬ (okQ s l k = true ∧ okQ t l' k' = true)) :
    Calls Tryz.prog 27 #[.agg #[.bool s, .slice A l.length a, .slice B k.length b], .agg #[.bool t, .slice C l'.length c, .slice D k'.length d]] w fun e w' => e = .returned (.tuple #[.agg #[.bool false, .slice none 0 0, .slice none 0 0], .int .i64 8]) ∧ Below w.heap.size w w' := by
  obtain ⟨bA, bB, bR, hB0⟩ := boxesQ w (.bool s) (.slice A l.length a) (.slice B k.length b) (.bool t) (.slice C l'.length c) (.slice D k'.length d) (.bool false) (.slice none 0 0) (.slice none 0 0)
  have Hj := Lib.hid (fun (f1 f2 : Value) => rjoin_err (w := (((w.alloc (.cells #[.bool s, .slice A l.length a, .slice B k.length b] 48)).alloc (.cells #[.bool t, .slice C l'.length c, .slice D k'.length d] 48)).alloc (.cells #[.bool false, .slice none 0 0, .slice none 0 0] 48))) (f1 := f1) (f2 := f2) (u1.below hB0) (u2.below hB0) (u3.below hB0) (u4.below hB0) q1 q2 q3 q4 ho)
  have HB0 := Lib.hid hB0
  have BR0 := Lib.hid bR
  obtain ⟨a0, a1, a2, _, _, _, _⟩ := bA
  obtain ⟨b0, b1, b2, _, _, _, _⟩ := bB
  clear u1 u2 u3 u4 q1 q2 q3 q4 ho hB0 bR
  generalize l.length = L1 at *
  generalize k.length = L2 at *
  generalize l'.length = L3 at *
  generalize k'.length = L4 at *
  go_enter Tryz.func27, Tryz.ntmps27
  go_wp2_with fail
  refine (Hj.out _ _).mono ?_
  rintro e w4 ⟨rfl, hc4⟩
  have HB5 := Lib.hid (from_ HB0.out hc4)
  have BR5 := Lib.hid (BR0.out.below hc4)
  have HP := Lib.hid (BR5.out.put HB5.out (by omega) (.bool false) (.slice none 0 0) (.slice none 0 0))
  obtain ⟨qq0, qq1, qq2, ff0, ff1, ff2, _⟩ := (show Box3 w4 (w.heap.size + 1 + 1) _ _ _ from BR5.out)
  clear a0 a1 a2 b0 b1 b2
  go_wp2
  refine bodyPost_ret (res_rat2 rfl _ (w.heap.size + 2) rfl HP.out.c0 HP.out.c1 HP.out.c2) rfl ?_
  exact ⟨rfl, HP.out.bel⟩

set_option maxRecDepth 100000 in
set_option maxHeartbeats 2000000 in
theorem rdiv_bad {w : World} {Z1 Z2 Z3 Z4 : Zone} {s t : Bool} {l k l' k' : List Nat} {A B C D : Option Addr} {a b c d : Nat} (u1 : U64s w Z1 A a l) (u2 : U64s w Z2 B b k) (u3 : U64s w Z3 C c l') (u4 : U64s w Z4 D d k') (q1 : l.length ≤ 2000) (q2 : k.length ≤ 2000) (q3 : l'.length ≤ 2000) (q4 : k'.length ≤ 2000) (ho : ¬ (okQ s l k = true ∧ okQ t l' k' = true)) :
    Calls Tryz.prog 29 #[.agg #[.bool s, .slice A l.length a, .slice B k.length b], .agg #[.bool t, .slice C l'.length c, .slice D k'.length d]] w fun e w' => e = .returned (.tuple #[.agg #[.bool false, .slice none 0 0, .slice none 0 0], .int .i64 8]) ∧ Below w.heap.size w w' := by
  obtain ⟨bA, bB, bR, hB0⟩ := boxesQ w (.bool s) (.slice A l.length a) (.slice B k.length b) (.bool t) (.slice C l'.length c) (.slice D k'.length d) (.bool false) (.slice none 0 0) (.slice none 0 0)
  have Hj := Lib.hid (fun (f1 f2 : Value) => rjoin_err (w := (((w.alloc (.cells #[.bool s, .slice A l.length a, .slice B k.length b] 48)).alloc (.cells #[.bool t, .slice C l'.length c, .slice D k'.length d] 48)).alloc (.cells #[.bool false, .slice none 0 0, .slice none 0 0] 48))) (f1 := f1) (f2 := f2) (u1.below hB0) (u2.below hB0) (u3.below hB0) (u4.below hB0) q1 q2 q3 q4 ho)
  have HB0 := Lib.hid hB0
  have BR0 := Lib.hid bR
  obtain ⟨a0, a1, a2, _, _, _, _⟩ := bA
  obtain ⟨b0, b1, b2, _, _, _, _⟩ := bB
  clear u1 u2 u3 u4 q1 q2 q3 q4 ho hB0 bR
  generalize l.length = L1 at *
  generalize k.length = L2 at *
  generalize l'.length = L3 at *
  generalize k'.length = L4 at *
  go_enter Tryz.func29, Tryz.ntmps29
  go_wp2_with fail
  refine (Hj.out _ _).mono ?_
  rintro e w4 ⟨rfl, hc4⟩
  have HB5 := Lib.hid (from_ HB0.out hc4)
  have BR5 := Lib.hid (BR0.out.below hc4)
  have HP := Lib.hid (BR5.out.put HB5.out (by omega) (.bool false) (.slice none 0 0) (.slice none 0 0))
  obtain ⟨qq0, qq1, qq2, ff0, ff1, ff2, _⟩ := (show Box3 w4 (w.heap.size + 1 + 1) _ _ _ from BR5.out)
  clear a0 a1 a2 b0 b1 b2
  go_wp2
  refine bodyPost_ret (res_rat2 rfl _ (w.heap.size + 2) rfl HP.out.c0 HP.out.c1 HP.out.c2) rfl ?_
  exact ⟨rfl, HP.out.bel⟩

set_option maxRecDepth 100000 in
set_option maxHeartbeats 4000000 in
theorem rfloor_bad {w : World} {Z1 Z2 : Zone} {s : Bool} {l k : List Nat} {A B : Option Addr} {a b : Nat} (u1 : U64s w Z1 A a l) (u2 : U64s w Z2 B b k) (q1 : l.length ≤ 300) (q2 : k.length ≤ 300) (ho : okQ s l k = false) :
    Calls Tryz.prog 34 #[.agg #[.bool s, .slice A l.length a, .slice B k.length b]] w fun e w' => e = .returned (.tuple #[.agg #[.bool false, .slice none 0 0], .int .i64 8]) ∧ Below w.heap.size w w' := by
  have hB := box_rat w (.bool s) (.slice A l.length a) (.slice B k.length b)
  have bA := (Box3.new w (.bool s) (.slice A l.length a) (.slice B k.length b) 48).alloc (.cells #[.bool false, .slice none 0 0] 36)
  have bR := Box.new (w.alloc (.cells #[.bool s, .slice A l.length a, .slice B k.length b] 48)) (.bool false) (.slice none 0 0) 36
  have hB0 := hB.alloc hB.size (.cells #[.bool false, .slice none 0 0] 36)
  rw [show (w.alloc (.cells #[.bool s, .slice A l.length a, .slice B k.length b] 48)).heap.size = w.heap.size + 1 by simp] at bR
  have hM := ratcheck_any (s := s) (u1.below hB0) (u2.below hB0) (by omega) (by omega)
  rw [show errF s l k = 8 from if_neg (by rw [ho]; decide)] at hM
  have HM := Lib.hid hM
  obtain ⟨a0, a1, a2, _, _, _, _⟩ := bA
  clear hM u1 u2 q1 q2 ho
  generalize l.length = L1 at *
  generalize k.length = L2 at *
  go_enter Tryz.func34, Tryz.ntmps34
  go_wp2_with fail
  refine HM.out.mono ?_
  rintro e w1 ⟨rfl, hc⟩
  have bR1 := bR.below hc
  have HP := Lib.hid (bR1.put (from_ hB0 hc) (by omega) (.bool false) (.slice none 0 0))
  obtain ⟨q0, q1, f0, f1, _⟩ := bR1
  clear bR hc a0 a1 a2
  go_wp2
  refine bodyPost_ret (res_int2 rfl _ (w.heap.size + 1) rfl HP.out.c0 HP.out.c1) rfl ?_
  exact ⟨rfl, HP.out.bel⟩

set_option maxRecDepth 100000 in
set_option maxHeartbeats 4000000 in
theorem rceil_bad {w : World} {Z1 Z2 : Zone} {s : Bool} {l k : List Nat} {A B : Option Addr} {a b : Nat} (u1 : U64s w Z1 A a l) (u2 : U64s w Z2 B b k) (q1 : l.length ≤ 300) (q2 : k.length ≤ 300) (ho : okQ s l k = false) :
    Calls Tryz.prog 36 #[.agg #[.bool s, .slice A l.length a, .slice B k.length b]] w fun e w' => e = .returned (.tuple #[.agg #[.bool false, .slice none 0 0], .int .i64 8]) ∧ Below w.heap.size w w' := by
  have hB := box_rat w (.bool s) (.slice A l.length a) (.slice B k.length b)
  have bA := (Box3.new w (.bool s) (.slice A l.length a) (.slice B k.length b) 48).alloc (.cells #[.bool false, .slice none 0 0] 36)
  have bR := Box.new (w.alloc (.cells #[.bool s, .slice A l.length a, .slice B k.length b] 48)) (.bool false) (.slice none 0 0) 36
  have hB0 := hB.alloc hB.size (.cells #[.bool false, .slice none 0 0] 36)
  rw [show (w.alloc (.cells #[.bool s, .slice A l.length a, .slice B k.length b] 48)).heap.size = w.heap.size + 1 by simp] at bR
  have hM := ratcheck_any (s := s) (u1.below hB0) (u2.below hB0) (by omega) (by omega)
  rw [show errF s l k = 8 from if_neg (by rw [ho]; decide)] at hM
  have HM := Lib.hid hM
  obtain ⟨a0, a1, a2, _, _, _, _⟩ := bA
  clear hM u1 u2 q1 q2 ho
  generalize l.length = L1 at *
  generalize k.length = L2 at *
  go_enter Tryz.func36, Tryz.ntmps36
  go_wp2_with fail
  refine HM.out.mono ?_
  rintro e w1 ⟨rfl, hc⟩
  have bR1 := bR.below hc
  have HP := Lib.hid (bR1.put (from_ hB0 hc) (by omega) (.bool false) (.slice none 0 0))
  obtain ⟨q0, q1, f0, f1, _⟩ := bR1
  clear bR hc a0 a1 a2
  go_wp2
  refine bodyPost_ret (res_int2 rfl _ (w.heap.size + 1) rfl HP.out.c0 HP.out.c1) rfl ?_
  exact ⟨rfl, HP.out.bel⟩

/-- A fraction's text: an error, and what is written. -/
def qTe (s : Bool) (l k : List Nat) : Int := if okQ s l k = true then (if wErrT s l = 0 then (if k = [1] then 0 else errT k) else wErrT s l) else 8
def qTt (s : Bool) (l k : List Nat) : List UInt8 := if okQ s l k = true then (if wErrT s l = 0 then (if k = [1] then wTxtT s l else if errT k = 0 then wTxtT s l ++ 47 :: txtT k else []) else wTxtT s l) else []
theorem qT_case (s : Bool) (l k : List Nat) :
    (okQ s l k = false ∧ qTe s l k = 8 ∧ qTt s l k = []) ∨
    (okQ s l k = true ∧ (wErrT s l != 0) = true ∧ qTe s l k = wErrT s l ∧ qTt s l k = wTxtT s l) ∨
    (okQ s l k = true ∧ wErrT s l = 0 ∧ decide (k = [1]) = true ∧ qTe s l k = 0 ∧ qTt s l k = wTxtT s l) ∨
    (okQ s l k = true ∧ wErrT s l = 0 ∧ decide (k = [1]) = false ∧ (errT k != 0) = true ∧ qTe s l k = errT k ∧ qTt s l k = []) ∨
    (okQ s l k = true ∧ wErrT s l = 0 ∧ decide (k = [1]) = false ∧ errT k = 0 ∧ qTe s l k = 0 ∧ qTt s l k = wTxtT s l ++ 47 :: txtT k) := by
  unfold qTe qTt
  cases okQ s l k
  · left; simp
  · right
    by_cases h1 : wErrT s l = 0
    · right
      by_cases h2 : k = [1]
      · left; simp [h1, h2]
      · right
        by_cases h3 : errT k = 0
        · right; simp [h1, h2, h3]
        · left; simp [h1, h2, h3]
    · left; simp [h1]
set_option maxRecDepth 100000 in
set_option maxHeartbeats 4000000 in
theorem rtext_any {w : World} {Z1 Z2 : Zone} {s : Bool} {l k : List Nat} {A B : Option Addr} {a b : Nat} (u1 : U64s w Z1 A a l) (u2 : U64s w Z2 B b k) (q1 : l.length ≤ 300) (q2 : k.length ≤ 300) (ht : Tab w) :
    Calls Tryz.prog 38 #[.agg #[.bool s, .slice A l.length a, .slice B k.length b]] w fun e w' => e = .returned (.tuple #[strV (qTt s l k), .int .i64 (qTe s l k)]) ∧ Below w.heap.size w w' := by
  have hB := box_rat w (.bool s) (.slice A l.length a) (.slice B k.length b)
  obtain ⟨b0, b1, b2, _, _, _, _⟩ := Box3.new w (.bool s) (.slice A l.length a) (.slice B k.length b) 48
  have hck := ratcheck_any (s := s) (u1.below hB) (u2.below hB) (by omega) (by omega)
  have eF : errF s l k = if okQ s l k = true then 0 else 8 := rfl
  obtain ⟨x, hx⟩ : ∃ x : ByteArray, x = ⟨(wTxtT s l).toArray⟩ := ⟨_, rfl⟩
  obtain ⟨y, hy⟩ : ∃ y : ByteArray, y = ⟨(txtT k).toArray⟩ := ⟨_, rfl⟩
  have hxs : x.size ≤ 4097 := by have := wTxtT_len s l; rw [hx]; simpa [ByteArray.size] using this
  have hys : y.size ≤ 4096 := by have := txtT_len k; rw [hy]; simpa [ByteArray.size] using this
  have HW : Hid (∀ w1, Below w.heap.size w w1 → Calls Tryz.prog 17 #[.agg #[.bool s, .slice A l.length a]] w1 fun e w' => e = .returned (.tuple #[.string x, .int .i64 (wErrT s l)]) ∧ Below w1.heap.size w1 w') := fun w1 h => by
    have := wtext_any (s := s) (u1.below h) (by omega) (ht.below h)
    rw [hx]
    exact this
  have HT : Hid (∀ w1, Below w.heap.size w w1 → Calls Tryz.prog 6 #[.slice B k.length b] w1 fun e w' => e = .returned (.tuple #[.string y, .int .i64 (errT k)]) ∧ Below w1.heap.size w1 w') := fun w1 h => by
    have := gtext_all (l := k) ⟨B, b, rfl, u2.below h⟩ (by omega) (ht.below h)
    rw [hy]
    exact this
  have HQ : Hid (∀ w1, Below w.heap.size w w1 → Calls Tryz.prog 96 #[.slice B k.length b, .slice (some ⟨w1.heap.size, 0, none⟩) 1 1] (w1.alloc (.cells #[.int .u64 1] 68)) fun e w' => e = .returned (.bool (decide (k = [1]))) ∧ Below (w1.alloc (.cells #[.int .u64 1] 68)).heap.size (w1.alloc (.cells #[.int .u64 1] 68)) w') := fun w1 h => by
    have h2 : IsU (w1.alloc (.cells #[.int .u64 1] 68)) old (.slice (some ⟨w1.heap.size, 0, none⟩) 1 1) [1] := isU_one (x := 1) (by omega) (by refine cell_newest ?_ rfl; simp)
    exact equal_dec (IsU.below ⟨B, b, rfl, u2.below h⟩ ((Below.refl _ w1).alloc (Nat.le_refl _) _)) h2
  have hxv : strV (wTxtT s l) = .string x := by rw [hx]; try rfl
  have hxy : strV (wTxtT s l ++ 47 :: txtT k) = .string (x ++ ⟨#[47]⟩ ++ y) := by
    rw [hx, hy]
    refine congrArg Value.string ?_
    apply ByteArray.ext
    simp
  have hne : strV [] = .string ⟨#[]⟩ := rfl
  have hcase := qT_case s l k
  generalize qTe s l k = QE at *
  generalize qTt s l k = QT at *
  generalize wErrT s l = we at *
  generalize errT k = te at *
  generalize decide (k = [1]) = ek at *
  rcases hcase with ⟨o, rfl, rfl⟩ | ⟨o, h1, rfl, rfl⟩ | ⟨o, rfl, rfl, rfl, rfl⟩ | ⟨o, rfl, rfl, h1, rfl, rfl⟩ | ⟨o, rfl, rfl, rfl, rfl, rfl⟩
  · rw [o] at eF
    simp at eF
    rw [eF] at hck
    rw [hne]
    have HCK := Lib.hid hck
    clear hck eF ht o hx hy u1 u2 q1 q2 hxv hxy hne
    generalize l.length = L1 at *
    generalize k.length = L2 at *
    go_enter Tryz.func38, Tryz.ntmps38
    go_wp2_with fail
    refine HCK.out.mono ?_
    rintro e w1 ⟨rfl, hc⟩
    have hB1 := from_ hB hc
    replace b0 := keepC hc b0
    replace b1 := keepC hc b1
    replace b2 := keepC hc b2
    clear hc
    go_wp2
    go_ret2
    exact ⟨rfl, hB1⟩
  · rw [o] at eF
    simp at eF
    rw [eF] at hck
    rw [hxv]
    have HCK := Lib.hid hck
    clear hck eF ht o hx hy u1 u2 q1 q2 hxv hxy hne
    generalize l.length = L1 at *
    generalize k.length = L2 at *
    go_enter Tryz.func38, Tryz.ntmps38
    go_wp2_with fail
    refine HCK.out.mono ?_
    rintro e w1 ⟨rfl, hc⟩
    have hB1 := from_ hB hc
    replace b0 := keepC hc b0
    replace b1 := keepC hc b1
    replace b2 := keepC hc b2
    clear hc
    go_wp2_with fail
    refine (HW.out _ hB1).mono ?_
    rintro e w2 ⟨rfl, hc⟩
    have hB2 := from_ hB1 hc
    replace b2 := keepC hc b2
    clear hc
    go_wp2
    go_ret2
    exact ⟨rfl, hB2⟩
  · rw [o] at eF
    simp at eF
    rw [eF] at hck
    rw [hxv]
    have HCK := Lib.hid hck
    clear hck eF ht o hx hy u1 u2 q1 q2 hxv hxy hne
    generalize l.length = L1 at *
    generalize k.length = L2 at *
    go_enter Tryz.func38, Tryz.ntmps38
    go_wp2_with fail
    refine HCK.out.mono ?_
    rintro e w1 ⟨rfl, hc⟩
    have hB1 := from_ hB hc
    replace b0 := keepC hc b0
    replace b1 := keepC hc b1
    replace b2 := keepC hc b2
    clear hc
    go_wp2_with fail
    refine (HW.out _ hB1).mono ?_
    rintro e w2 ⟨rfl, hc⟩
    have hB2 := from_ hB1 hc
    replace b2 := keepC hc b2
    clear hc
    go_wp2_with fail
    refine (HQ.out _ hB2).mono ?_
    rintro e w3 ⟨rfl, hc⟩
    have hs3 := step (w := w2) (by go_grown) hc
    have hB3 := from_ hB2 hs3
    replace b2 := keepC hs3 b2
    clear hc hs3
    go_wp2
    go_ret2
    exact ⟨rfl, hB3⟩
  · rw [o] at eF
    simp at eF
    rw [eF] at hck
    rw [hne]
    have HCK := Lib.hid hck
    clear hck eF ht o hx hy u1 u2 q1 q2 hxv hxy hne
    generalize l.length = L1 at *
    generalize k.length = L2 at *
    go_enter Tryz.func38, Tryz.ntmps38
    go_wp2_with fail
    refine HCK.out.mono ?_
    rintro e w1 ⟨rfl, hc⟩
    have hB1 := from_ hB hc
    replace b0 := keepC hc b0
    replace b1 := keepC hc b1
    replace b2 := keepC hc b2
    clear hc
    go_wp2_with fail
    refine (HW.out _ hB1).mono ?_
    rintro e w2 ⟨rfl, hc⟩
    have hB2 := from_ hB1 hc
    replace b2 := keepC hc b2
    clear hc
    go_wp2_with fail
    refine (HQ.out _ hB2).mono ?_
    rintro e w3 ⟨rfl, hc⟩
    have hs3 := step (w := w2) (by go_grown) hc
    have hB3 := from_ hB2 hs3
    replace b2 := keepC hs3 b2
    clear hc hs3
    go_wp2_with fail
    refine (HT.out _ hB3).mono ?_
    rintro e w4 ⟨rfl, hc⟩
    have hB4 := from_ hB3 hc
    clear hc
    go_wp2
    go_ret2
    exact ⟨rfl, hB4⟩
  · rw [o] at eF
    simp at eF
    rw [eF] at hck
    rw [hxy]
    have HCK := Lib.hid hck
    clear hck eF ht o hx hy u1 u2 q1 q2 hxv hxy hne
    generalize l.length = L1 at *
    generalize k.length = L2 at *
    go_enter Tryz.func38, Tryz.ntmps38
    go_wp2_with fail
    refine HCK.out.mono ?_
    rintro e w1 ⟨rfl, hc⟩
    have hB1 := from_ hB hc
    replace b0 := keepC hc b0
    replace b1 := keepC hc b1
    replace b2 := keepC hc b2
    clear hc
    go_wp2_with fail
    refine (HW.out _ hB1).mono ?_
    rintro e w2 ⟨rfl, hc⟩
    have hB2 := from_ hB1 hc
    replace b2 := keepC hc b2
    clear hc
    go_wp2_with fail
    refine (HQ.out _ hB2).mono ?_
    rintro e w3 ⟨rfl, hc⟩
    have hs3 := step (w := w2) (by go_grown) hc
    have hB3 := from_ hB2 hs3
    replace b2 := keepC hs3 b2
    clear hc hs3
    go_wp2_with fail
    refine (HT.out _ hB3).mono ?_
    rintro e w4 ⟨rfl, hc⟩
    have hB4 := from_ hB3 hc
    clear hc
    go_wp2
    go_ret2
    exact ⟨rfl, hB4⟩

set_option maxRecDepth 100000 in
set_option maxHeartbeats 4000000 in
theorem r6text_any {w : World} {Z1 Z2 : Zone} {s : Bool} {l k : List Nat} {A B : Option Addr} {a b : Nat} (u1 : U64s w Z1 A a l) (u2 : U64s w Z2 B b k) (q1 : l.length ≤ 300) (q2 : k.length ≤ 300) :
    Calls Tryz.prog 39 #[.agg #[.bool s, .slice A l.length a, .slice B k.length b]] w fun e w' => e = .returned (.tuple #[strV (qTt s l k), .int .i64 (qTe s l k)]) ∧ Below w.heap.size w w' := by
  have hB := box_rat w (.bool s) (.slice A l.length a) (.slice B k.length b)
  obtain ⟨b0, b1, b2, _, _, _, _⟩ := Box3.new w (.bool s) (.slice A l.length a) (.slice B k.length b) 48
  have hck := r6may_any (s := s) (u1.below hB) (u2.below hB) q1 q2
  obtain ⟨x, hx⟩ : ∃ x : ByteArray, x = ⟨(wTxtT s l).toArray⟩ := ⟨_, rfl⟩
  obtain ⟨y, hy⟩ : ∃ y : ByteArray, y = ⟨(txtT k).toArray⟩ := ⟨_, rfl⟩
  have hxs : x.size ≤ 4097 := by have := wTxtT_len s l; rw [hx]; simpa [ByteArray.size] using this
  have hys : y.size ≤ 4096 := by have := txtT_len k; rw [hy]; simpa [ByteArray.size] using this
  have HW : Hid (∀ w1, Below w.heap.size w w1 → Calls Tryz.prog 18 #[.agg #[.bool s, .slice A l.length a]] w1 fun e w' => e = .returned (.tuple #[.string x, .int .i64 (wErrT s l)]) ∧ Below w1.heap.size w1 w') := fun w1 h => by
    have := r5text_any (s := s) (u1.below h) (by omega)
    rw [hx]
    exact this
  have HT : Hid (∀ w1, Below w.heap.size w w1 → Calls Tryz.prog 7 #[.slice B k.length b] w1 fun e w' => e = .returned (.tuple #[.string y, .int .i64 (errT k)]) ∧ Below w1.heap.size w1 w') := fun w1 h => by
    have := rtext_all (l := k) ⟨B, b, rfl, u2.below h⟩ (by omega)
    rw [hy]
    exact this
  have HQ : Hid (∀ w1, Below w.heap.size w w1 → Calls Tryz.prog 10 #[.slice B k.length b, .slice (some ⟨w1.heap.size, 0, none⟩) 1 1] (w1.alloc (.cells #[.int .u64 1] 68)) fun e w' => e = .returned (.bool (decide (k = [1]))) ∧ Below (w1.alloc (.cells #[.int .u64 1] 68)).heap.size (w1.alloc (.cells #[.int .u64 1] 68)) w') := fun w1 h => by
    have h2 : IsU (w1.alloc (.cells #[.int .u64 1] 68)) old (.slice (some ⟨w1.heap.size, 0, none⟩) 1 1) [1] := isU_one (x := 1) (by omega) (by refine cell_newest ?_ rfl; simp)
    exact same_dec (IsU.below ⟨B, b, rfl, u2.below h⟩ ((Below.refl _ w1).alloc (Nat.le_refl _) _)) h2
  have hxv : strV (wTxtT s l) = .string x := by rw [hx]; try rfl
  have hxy : strV (wTxtT s l ++ 47 :: txtT k) = .string (x ++ ⟨#[47]⟩ ++ y) := by
    rw [hx, hy]
    refine congrArg Value.string ?_
    apply ByteArray.ext
    simp
  have hne : strV [] = .string ⟨#[]⟩ := rfl
  have hcase := qT_case s l k
  generalize qTe s l k = QE at *
  generalize qTt s l k = QT at *
  generalize wErrT s l = we at *
  generalize errT k = te at *
  generalize decide (k = [1]) = ek at *
  rcases hcase with ⟨o, rfl, rfl⟩ | ⟨o, h1, rfl, rfl⟩ | ⟨o, rfl, rfl, rfl, rfl⟩ | ⟨o, rfl, rfl, h1, rfl, rfl⟩ | ⟨o, rfl, rfl, rfl, rfl, rfl⟩
  · rw [o] at hck
    rw [hne]
    have HCK := Lib.hid hck
    clear hck o hx hy u1 u2 q1 q2 hxv hxy hne
    generalize l.length = L1 at *
    generalize k.length = L2 at *
    go_enter Tryz.func39, Tryz.ntmps39
    go_wp2_with fail
    refine HCK.out.mono ?_
    rintro e w1 ⟨rfl, hc⟩
    have hB1 := from_ hB hc
    replace b0 := keepC hc b0
    replace b1 := keepC hc b1
    replace b2 := keepC hc b2
    clear hc
    go_wp2
    go_ret2
    exact ⟨rfl, hB1⟩
  · rw [o] at hck
    rw [hxv]
    have HCK := Lib.hid hck
    clear hck o hx hy u1 u2 q1 q2 hxv hxy hne
    generalize l.length = L1 at *
    generalize k.length = L2 at *
    go_enter Tryz.func39, Tryz.ntmps39
    go_wp2_with fail
    refine HCK.out.mono ?_
    rintro e w1 ⟨rfl, hc⟩
    have hB1 := from_ hB hc
    replace b0 := keepC hc b0
    replace b1 := keepC hc b1
    replace b2 := keepC hc b2
    clear hc
    go_wp2_with fail
    refine (HW.out _ hB1).mono ?_
    rintro e w2 ⟨rfl, hc⟩
    have hB2 := from_ hB1 hc
    replace b2 := keepC hc b2
    clear hc
    go_wp2
    go_ret2
    exact ⟨rfl, hB2⟩
  · rw [o] at hck
    rw [hxv]
    have HCK := Lib.hid hck
    clear hck o hx hy u1 u2 q1 q2 hxv hxy hne
    generalize l.length = L1 at *
    generalize k.length = L2 at *
    go_enter Tryz.func39, Tryz.ntmps39
    go_wp2_with fail
    refine HCK.out.mono ?_
    rintro e w1 ⟨rfl, hc⟩
    have hB1 := from_ hB hc
    replace b0 := keepC hc b0
    replace b1 := keepC hc b1
    replace b2 := keepC hc b2
    clear hc
    go_wp2_with fail
    refine (HW.out _ hB1).mono ?_
    rintro e w2 ⟨rfl, hc⟩
    have hB2 := from_ hB1 hc
    replace b2 := keepC hc b2
    clear hc
    go_wp2_with fail
    refine (HQ.out _ hB2).mono ?_
    rintro e w3 ⟨rfl, hc⟩
    have hs3 := step (w := w2) (by go_grown) hc
    have hB3 := from_ hB2 hs3
    replace b2 := keepC hs3 b2
    clear hc hs3
    go_wp2
    go_ret2
    exact ⟨rfl, hB3⟩
  · rw [o] at hck
    rw [hne]
    have HCK := Lib.hid hck
    clear hck o hx hy u1 u2 q1 q2 hxv hxy hne
    generalize l.length = L1 at *
    generalize k.length = L2 at *
    go_enter Tryz.func39, Tryz.ntmps39
    go_wp2_with fail
    refine HCK.out.mono ?_
    rintro e w1 ⟨rfl, hc⟩
    have hB1 := from_ hB hc
    replace b0 := keepC hc b0
    replace b1 := keepC hc b1
    replace b2 := keepC hc b2
    clear hc
    go_wp2_with fail
    refine (HW.out _ hB1).mono ?_
    rintro e w2 ⟨rfl, hc⟩
    have hB2 := from_ hB1 hc
    replace b2 := keepC hc b2
    clear hc
    go_wp2_with fail
    refine (HQ.out _ hB2).mono ?_
    rintro e w3 ⟨rfl, hc⟩
    have hs3 := step (w := w2) (by go_grown) hc
    have hB3 := from_ hB2 hs3
    replace b2 := keepC hs3 b2
    clear hc hs3
    go_wp2_with fail
    refine (HT.out _ hB3).mono ?_
    rintro e w4 ⟨rfl, hc⟩
    have hB4 := from_ hB3 hc
    clear hc
    go_wp2
    go_ret2
    exact ⟨rfl, hB4⟩
  · rw [o] at hck
    rw [hxy]
    have HCK := Lib.hid hck
    clear hck o hx hy u1 u2 q1 q2 hxv hxy hne
    generalize l.length = L1 at *
    generalize k.length = L2 at *
    go_enter Tryz.func39, Tryz.ntmps39
    go_wp2_with fail
    refine HCK.out.mono ?_
    rintro e w1 ⟨rfl, hc⟩
    have hB1 := from_ hB hc
    replace b0 := keepC hc b0
    replace b1 := keepC hc b1
    replace b2 := keepC hc b2
    clear hc
    go_wp2_with fail
    refine (HW.out _ hB1).mono ?_
    rintro e w2 ⟨rfl, hc⟩
    have hB2 := from_ hB1 hc
    replace b2 := keepC hc b2
    clear hc
    go_wp2_with fail
    refine (HQ.out _ hB2).mono ?_
    rintro e w3 ⟨rfl, hc⟩
    have hs3 := step (w := w2) (by go_grown) hc
    have hB3 := from_ hB2 hs3
    replace b2 := keepC hs3 b2
    clear hc hs3
    go_wp2_with fail
    refine (HT.out _ hB3).mono ?_
    rintro e w4 ⟨rfl, hc⟩
    have hB4 := from_ hB3 hc
    clear hc
    go_wp2
    go_ret2
    exact ⟨rfl, hB4⟩

end Go.Proofs.YtceenaegchlbcaaGreatDoor

namespace Go.Proofs.YtceenaegchlbcaaGreatDoor
open Go.RowKit
set_option linter.unusedVariables false
set_option linter.unusedSimpArgs false

set_option maxRecDepth 100000 in
set_option maxHeartbeats 8000000 in
theorem rsame_dec {w : World} {Z1 Z2 Z3 Z4 : Zone} {s t : Bool} {l k l' k' : List Nat} {A B C D : Option Addr} {a b c d : Nat} {O : Bool} (hO : decide (s = t ∧ l = l' ∧ k = k') = O) (u1 : U64s w Z1 A a l) (u2 : U64s w Z2 B b k) (u3 : U64s w Z3 C c l') (u4 : U64s w Z4 D d k') :
    Calls Tryz.prog 42 #[.agg #[.bool s, .slice A l.length a, .slice B k.length b], .agg #[.bool t, .slice C l'.length c, .slice D k'.length d]] w fun e w' => e = .returned (.bool O) ∧ Below w.heap.size w w' := by
  obtain ⟨bA, bC, hB0⟩ := boxes2Q w (.bool s) (.slice A l.length a) (.slice B k.length b) (.bool t) (.slice C l'.length c) (.slice D k'.length d)
  obtain ⟨D0, h0⟩ : ∃ D0, D0 = decide (s = t ∧ l = l') := ⟨_, rfl⟩
  obtain ⟨D1, h1⟩ : ∃ D1, D1 = decide (k = k') := ⟨_, rfl⟩
  have C0 := wsame_any (a := .agg #[.bool s, .slice A l.length a]) (b := .agg #[.bool t, .slice C l'.length c]) ⟨_, rfl, A, a, rfl, u1.below hB0⟩ ⟨_, rfl, C, c, rfl, u3.below hB0⟩
  have C1 : Hid (∀ w1, Below w.heap.size w w1 → Calls Tryz.prog 96 #[.slice B k.length b, .slice D k'.length d] w1 fun e w' => e = .returned (.bool D1) ∧ Below w1.heap.size w1 w') := fun w1 h => by
    have := equal_dec (w := w1) ⟨B, b, rfl, u2.below h⟩ ⟨D, d, rfl, u4.below h⟩
    rwa [← h1] at this
  rw [← h0] at C0
  have hOO : O = (D0 && D1) := by
    rw [← hO, h0, h1, Bool.eq_iff_iff]
    simp only [Bool.and_eq_true, decide_eq_true_iff]
    exact and_assoc.symm
  have C0' := Lib.hid C0
  have HO := Lib.hid hOO
  have Hal := Lib.hid hB0
  obtain ⟨a0, a1, a2, _, _, _, _⟩ := bA
  obtain ⟨c0, c1, c2, _, _, _, _⟩ := bC
  clear u1 u2 u3 u4 hB0 C0 h0 h1 hOO hO
  generalize l.length = L at *
  generalize k.length = K at *
  generalize l'.length = L' at *
  generalize k'.length = K' at *
  cases D0
  · go_enter Tryz.func42, Tryz.ntmps42
    go_wp2_with fail
    refine C0'.out.mono ?_
    rintro e w1 ⟨rfl, hb1⟩
    have hB1 := from_ Hal.out hb1
    go_wp2
    go_ret
    exact ⟨by rw [HO.out]; rfl, hB1⟩
  · go_enter Tryz.func42, Tryz.ntmps42
    go_wp2_with fail
    refine C0'.out.mono ?_
    rintro e w1 ⟨rfl, hb1⟩
    replace a2 := keepC hb1 a2
    replace c2 := keepC hb1 c2
    have hB1 := from_ Hal.out hb1
    go_wp2_with fail
    refine (C1.out _ hB1).mono ?_
    rintro e w2 ⟨rfl, hb2⟩
    have hB2 := from_ hB1 hb2
    go_wp2
    go_ret
    exact ⟨by rw [HO.out]; rfl, hB2⟩

theorem pair_Add (s t : Bool) (l k l' k' : List Nat) (q1 : l.length ≤ 300) (q2 : k.length ≤ 300) (q3 : l'.length ≤ 300) (q4 : k'.length ≤ 300) (s1 : Small l) (s2 : Small k) (s3 : Small l') (s4 : Small k') :
    ∃ (r : Bool) (la ld : List Nat) (E : Int), (∀ (w : World) (Z1 Z2 Z3 Z4 : Zone) (A B C D : Option Addr) (a b c d : Nat), U64s w Z1 A a l → U64s w Z2 B b k → U64s w Z3 C c l' → U64s w Z4 D d k' → Calls Tryz.prog 23 #[.agg #[.bool s, .slice A l.length a, .slice B k.length b], .agg #[.bool t, .slice C l'.length c, .slice D k'.length d]] w fun e w' => ∃ An cn Ad cd, e = .returned (.tuple #[.agg #[.bool r, .slice An la.length cn, .slice Ad ld.length cd], .int .i64 E]) ∧ U64s w' (new w.heap.size) An cn la ∧ U64s w' (new w.heap.size) Ad cd ld ∧ Below w.heap.size w w') ∧ (∀ (w : World) (Z1 Z2 Z3 Z4 : Zone) (A B C D : Option Addr) (a b c d : Nat), U64s w Z1 A a l → U64s w Z2 B b k → U64s w Z3 C c l' → U64s w Z4 D d k' → Calls Tryz.prog 24 #[.agg #[.bool s, .slice A l.length a, .slice B k.length b], .agg #[.bool t, .slice C l'.length c, .slice D k'.length d]] w fun e w' => ∃ An cn Ad cd, e = .returned (.tuple #[.agg #[.bool r, .slice An la.length cn, .slice Ad ld.length cd], .int .i64 E]) ∧ U64s w' (new w.heap.size) An cn la ∧ U64s w' (new w.heap.size) Ad cd ld ∧ Below w.heap.size w w') := by
  by_cases ho : okQ s l k = true ∧ okQ t l' k' = true
  · obtain ⟨p, hp⟩ := okQ_nm ho.1 s1 s2
    obtain ⟨q, hq⟩ := okQ_nm ho.2 s3 s4
    exact ⟨_, _, _, 0, fun w Z1 Z2 Z3 Z4 A B C D a b c d u1 u2 u3 u4 => radd_q hp hq (NmQ.mk' (p + q)) rfl u1 u2 u3 u4 (by omega) (by omega) (by omega) (by omega), fun w Z1 Z2 Z3 Z4 A B C D a b c d u1 u2 u3 u4 => r6add_ok hp hq (NmQ.mk' (p + q)) rfl u1 u2 u3 u4 q1 q2 q3 q4⟩
  · exact ⟨false, [], [], 8, fun w Z1 Z2 Z3 Z4 A B C D a b c d u1 u2 u3 u4 => (radd_err u1 u2 u3 u4 (by omega) (by omega) (by omega) (by omega) ho).mono (fun e w' ⟨h1, h2⟩ => ⟨none, 0, none, 0, h1, U64s.nil _ _, U64s.nil _ _, h2⟩), fun w Z1 Z2 Z3 Z4 A B C D a b c d u1 u2 u3 u4 => (r6add_err u1 u2 u3 u4 q1 q2 q3 q4 ho).mono (fun e w' ⟨h1, h2⟩ => ⟨none, 0, none, 0, h1, U64s.nil _ _, U64s.nil _ _, h2⟩)⟩
theorem pair_Sub (s t : Bool) (l k l' k' : List Nat) (q1 : l.length ≤ 300) (q2 : k.length ≤ 300) (q3 : l'.length ≤ 300) (q4 : k'.length ≤ 300) (s1 : Small l) (s2 : Small k) (s3 : Small l') (s4 : Small k') :
    ∃ (r : Bool) (la ld : List Nat) (E : Int), (∀ (w : World) (Z1 Z2 Z3 Z4 : Zone) (A B C D : Option Addr) (a b c d : Nat), U64s w Z1 A a l → U64s w Z2 B b k → U64s w Z3 C c l' → U64s w Z4 D d k' → Calls Tryz.prog 25 #[.agg #[.bool s, .slice A l.length a, .slice B k.length b], .agg #[.bool t, .slice C l'.length c, .slice D k'.length d]] w fun e w' => ∃ An cn Ad cd, e = .returned (.tuple #[.agg #[.bool r, .slice An la.length cn, .slice Ad ld.length cd], .int .i64 E]) ∧ U64s w' (new w.heap.size) An cn la ∧ U64s w' (new w.heap.size) Ad cd ld ∧ Below w.heap.size w w') ∧ (∀ (w : World) (Z1 Z2 Z3 Z4 : Zone) (A B C D : Option Addr) (a b c d : Nat), U64s w Z1 A a l → U64s w Z2 B b k → U64s w Z3 C c l' → U64s w Z4 D d k' → Calls Tryz.prog 26 #[.agg #[.bool s, .slice A l.length a, .slice B k.length b], .agg #[.bool t, .slice C l'.length c, .slice D k'.length d]] w fun e w' => ∃ An cn Ad cd, e = .returned (.tuple #[.agg #[.bool r, .slice An la.length cn, .slice Ad ld.length cd], .int .i64 E]) ∧ U64s w' (new w.heap.size) An cn la ∧ U64s w' (new w.heap.size) Ad cd ld ∧ Below w.heap.size w w') := by
  by_cases ho : okQ s l k = true ∧ okQ t l' k' = true
  · obtain ⟨p, hp⟩ := okQ_nm ho.1 s1 s2
    obtain ⟨q, hq⟩ := okQ_nm ho.2 s3 s4
    exact ⟨_, _, _, 0, fun w Z1 Z2 Z3 Z4 A B C D a b c d u1 u2 u3 u4 => rsub_q hp hq (NmQ.mk' (p - q)) rfl u1 u2 u3 u4 (by omega) (by omega) (by omega) (by omega), fun w Z1 Z2 Z3 Z4 A B C D a b c d u1 u2 u3 u4 => r6sub_ok hp hq (NmQ.mk' (p - q)) rfl u1 u2 u3 u4 q1 q2 q3 q4⟩
  · exact ⟨false, [], [], 8, fun w Z1 Z2 Z3 Z4 A B C D a b c d u1 u2 u3 u4 => (rsub_err u1 u2 u3 u4 (by omega) (by omega) (by omega) (by omega) ho).mono (fun e w' ⟨h1, h2⟩ => ⟨none, 0, none, 0, h1, U64s.nil _ _, U64s.nil _ _, h2⟩), fun w Z1 Z2 Z3 Z4 A B C D a b c d u1 u2 u3 u4 => (r6sub_err u1 u2 u3 u4 q1 q2 q3 q4 ho).mono (fun e w' ⟨h1, h2⟩ => ⟨none, 0, none, 0, h1, U64s.nil _ _, U64s.nil _ _, h2⟩)⟩
theorem pair_Mul (s t : Bool) (l k l' k' : List Nat) (q1 : l.length ≤ 300) (q2 : k.length ≤ 300) (q3 : l'.length ≤ 300) (q4 : k'.length ≤ 300) (s1 : Small l) (s2 : Small k) (s3 : Small l') (s4 : Small k') :
    ∃ (r : Bool) (la ld : List Nat) (E : Int), (∀ (w : World) (Z1 Z2 Z3 Z4 : Zone) (A B C D : Option Addr) (a b c d : Nat), U64s w Z1 A a l → U64s w Z2 B b k → U64s w Z3 C c l' → U64s w Z4 D d k' → Calls Tryz.prog 27 #[.agg #[.bool s, .slice A l.length a, .slice B k.length b], .agg #[.bool t, .slice C l'.length c, .slice D k'.length d]] w fun e w' => ∃ An cn Ad cd, e = .returned (.tuple #[.agg #[.bool r, .slice An la.length cn, .slice Ad ld.length cd], .int .i64 E]) ∧ U64s w' (new w.heap.size) An cn la ∧ U64s w' (new w.heap.size) Ad cd ld ∧ Below w.heap.size w w') ∧ (∀ (w : World) (Z1 Z2 Z3 Z4 : Zone) (A B C D : Option Addr) (a b c d : Nat), U64s w Z1 A a l → U64s w Z2 B b k → U64s w Z3 C c l' → U64s w Z4 D d k' → Calls Tryz.prog 28 #[.agg #[.bool s, .slice A l.length a, .slice B k.length b], .agg #[.bool t, .slice C l'.length c, .slice D k'.length d]] w fun e w' => ∃ An cn Ad cd, e = .returned (.tuple #[.agg #[.bool r, .slice An la.length cn, .slice Ad ld.length cd], .int .i64 E]) ∧ U64s w' (new w.heap.size) An cn la ∧ U64s w' (new w.heap.size) Ad cd ld ∧ Below w.heap.size w w') := by
  by_cases ho : okQ s l k = true ∧ okQ t l' k' = true
  · obtain ⟨p, hp⟩ := okQ_nm ho.1 s1 s2
    obtain ⟨q, hq⟩ := okQ_nm ho.2 s3 s4
    exact ⟨_, _, _, 0, fun w Z1 Z2 Z3 Z4 A B C D a b c d u1 u2 u3 u4 => rmul_q hp hq (NmQ.mk' (p * q)) rfl u1 u2 u3 u4 (by omega) (by omega) (by omega) (by omega), fun w Z1 Z2 Z3 Z4 A B C D a b c d u1 u2 u3 u4 => r6mul_ok hp hq (NmQ.mk' (p * q)) rfl u1 u2 u3 u4 q1 q2 q3 q4⟩
  · exact ⟨false, [], [], 8, fun w Z1 Z2 Z3 Z4 A B C D a b c d u1 u2 u3 u4 => (rmul_bad u1 u2 u3 u4 (by omega) (by omega) (by omega) (by omega) ho).mono (fun e w' ⟨h1, h2⟩ => ⟨none, 0, none, 0, h1, U64s.nil _ _, U64s.nil _ _, h2⟩), fun w Z1 Z2 Z3 Z4 A B C D a b c d u1 u2 u3 u4 => (r6mul_err u1 u2 u3 u4 q1 q2 q3 q4 ho).mono (fun e w' ⟨h1, h2⟩ => ⟨none, 0, none, 0, h1, U64s.nil _ _, U64s.nil _ _, h2⟩)⟩
theorem pair_Div (s t : Bool) (l k l' k' : List Nat) (q1 : l.length ≤ 300) (q2 : k.length ≤ 300) (q3 : l'.length ≤ 300) (q4 : k'.length ≤ 300) (s1 : Small l) (s2 : Small k) (s3 : Small l') (s4 : Small k') :
    ∃ (r : Bool) (la ld : List Nat) (E : Int), (∀ (w : World) (Z1 Z2 Z3 Z4 : Zone) (A B C D : Option Addr) (a b c d : Nat), U64s w Z1 A a l → U64s w Z2 B b k → U64s w Z3 C c l' → U64s w Z4 D d k' → Calls Tryz.prog 29 #[.agg #[.bool s, .slice A l.length a, .slice B k.length b], .agg #[.bool t, .slice C l'.length c, .slice D k'.length d]] w fun e w' => ∃ An cn Ad cd, e = .returned (.tuple #[.agg #[.bool r, .slice An la.length cn, .slice Ad ld.length cd], .int .i64 E]) ∧ U64s w' (new w.heap.size) An cn la ∧ U64s w' (new w.heap.size) Ad cd ld ∧ Below w.heap.size w w') ∧ (∀ (w : World) (Z1 Z2 Z3 Z4 : Zone) (A B C D : Option Addr) (a b c d : Nat), U64s w Z1 A a l → U64s w Z2 B b k → U64s w Z3 C c l' → U64s w Z4 D d k' → Calls Tryz.prog 30 #[.agg #[.bool s, .slice A l.length a, .slice B k.length b], .agg #[.bool t, .slice C l'.length c, .slice D k'.length d]] w fun e w' => ∃ An cn Ad cd, e = .returned (.tuple #[.agg #[.bool r, .slice An la.length cn, .slice Ad ld.length cd], .int .i64 E]) ∧ U64s w' (new w.heap.size) An cn la ∧ U64s w' (new w.heap.size) Ad cd ld ∧ Below w.heap.size w w') := by
  by_cases ho : okQ s l k = true ∧ okQ t l' k' = true
  · obtain ⟨p, hp⟩ := okQ_nm ho.1 s1 s2
    obtain ⟨q, hq⟩ := okQ_nm ho.2 s3 s4
    rcases Int.lt_trichotomy q.num 0 with h0 | h0 | h0
    · exact ⟨_, _, _, 0, fun w Z1 Z2 Z3 Z4 A B C D a b c d u1 u2 u3 u4 => rdiv_q hp hq (NmQ.mk' (p / q)) rfl (by omega) u1 u2 u3 u4 (by omega) (by omega) (by omega) (by omega), fun w Z1 Z2 Z3 Z4 A B C D a b c d u1 u2 u3 u4 => r6div_neg hp hq (NmQ.mk' (p / q)) rfl h0 u1 u2 u3 u4 q1 q2 q3 q4⟩
    · exact ⟨false, [], [], 30, fun w Z1 Z2 Z3 Z4 A B C D a b c d u1 u2 u3 u4 => rdiv_zero hp hq h0 u1 u2 u3 u4 (by omega) (by omega) (by omega) (by omega), fun w Z1 Z2 Z3 Z4 A B C D a b c d u1 u2 u3 u4 => (r6div_zero hp hq h0 u1 u2 u3 u4 q1 q2 q3 q4).mono (fun e w' ⟨h1, h2⟩ => ⟨none, 0, none, 0, h1, U64s.nil _ _, U64s.nil _ _, h2⟩)⟩
    · exact ⟨_, _, _, 0, fun w Z1 Z2 Z3 Z4 A B C D a b c d u1 u2 u3 u4 => rdiv_q hp hq (NmQ.mk' (p / q)) rfl (by omega) u1 u2 u3 u4 (by omega) (by omega) (by omega) (by omega), fun w Z1 Z2 Z3 Z4 A B C D a b c d u1 u2 u3 u4 => r6div_pos hp hq (NmQ.mk' (p / q)) rfl h0 u1 u2 u3 u4 q1 q2 q3 q4⟩
  · exact ⟨false, [], [], 8, fun w Z1 Z2 Z3 Z4 A B C D a b c d u1 u2 u3 u4 => (rdiv_bad u1 u2 u3 u4 (by omega) (by omega) (by omega) (by omega) ho).mono (fun e w' ⟨h1, h2⟩ => ⟨none, 0, none, 0, h1, U64s.nil _ _, U64s.nil _ _, h2⟩), fun w Z1 Z2 Z3 Z4 A B C D a b c d u1 u2 u3 u4 => (r6div_err u1 u2 u3 u4 q1 q2 q3 q4 ho).mono (fun e w' ⟨h1, h2⟩ => ⟨none, 0, none, 0, h1, U64s.nil _ _, U64s.nil _ _, h2⟩)⟩
theorem pair_Cmp (s t : Bool) (l k l' k' : List Nat) (q1 : l.length ≤ 300) (q2 : k.length ≤ 300) (q3 : l'.length ≤ 300) (q4 : k'.length ≤ 300) (s1 : Small l) (s2 : Small k) (s3 : Small l') (s4 : Small k') :
    ∃ (g E : Int), (∀ (w : World) (Z1 Z2 Z3 Z4 : Zone) (A B C D : Option Addr) (a b c d : Nat), U64s w Z1 A a l → U64s w Z2 B b k → U64s w Z3 C c l' → U64s w Z4 D d k' → Calls Tryz.prog 31 #[.agg #[.bool s, .slice A l.length a, .slice B k.length b], .agg #[.bool t, .slice C l'.length c, .slice D k'.length d]] w fun e w' => e = .returned (.tuple #[.int .i64 g, .int .i64 E]) ∧ Below w.heap.size w w') ∧ (∀ (w : World) (Z1 Z2 Z3 Z4 : Zone) (A B C D : Option Addr) (a b c d : Nat), U64s w Z1 A a l → U64s w Z2 B b k → U64s w Z3 C c l' → U64s w Z4 D d k' → Calls Tryz.prog 32 #[.agg #[.bool s, .slice A l.length a, .slice B k.length b], .agg #[.bool t, .slice C l'.length c, .slice D k'.length d]] w fun e w' => e = .returned (.tuple #[.int .i64 g, .int .i64 E]) ∧ Below w.heap.size w w') := by
  by_cases ho : okQ s l k = true ∧ okQ t l' k' = true
  · obtain ⟨p, hp⟩ := okQ_nm ho.1 s1 s2
    obtain ⟨q, hq⟩ := okQ_nm ho.2 s3 s4
    exact ⟨sgn (p - q).num, 0, fun w Z1 Z2 Z3 Z4 A B C D a b c d u1 u2 u3 u4 => rcmp_q hp hq rfl u1 u2 u3 u4 (by omega) (by omega) (by omega) (by omega), fun w Z1 Z2 Z3 Z4 A B C D a b c d u1 u2 u3 u4 => r6cmp_ok hp hq rfl u1 u2 u3 u4 q1 q2 q3 q4⟩
  · exact ⟨0, 8, fun w Z1 Z2 Z3 Z4 A B C D a b c d u1 u2 u3 u4 => rcmp_err u1 u2 u3 u4 (by omega) (by omega) (by omega) (by omega) ho, fun w Z1 Z2 Z3 Z4 A B C D a b c d u1 u2 u3 u4 => r6cmp_err u1 u2 u3 u4 q1 q2 q3 q4 ho⟩
theorem pair_Floor (s : Bool) (l k : List Nat) (q1 : l.length ≤ 300) (q2 : k.length ≤ 300) (s1 : Small l) (s2 : Small k) :
    ∃ (r : Bool) (m : List Nat) (E : Int), (∀ (w : World) (Z1 Z2 : Zone) (A B : Option Addr) (a b : Nat), U64s w Z1 A a l → U64s w Z2 B b k → Calls Tryz.prog 34 #[.agg #[.bool s, .slice A l.length a, .slice B k.length b]] w fun e w' => ∃ Av cv, e = .returned (.tuple #[.agg #[.bool r, .slice Av m.length cv], .int .i64 E]) ∧ U64s w' (new w.heap.size) Av cv m ∧ Below w.heap.size w w') ∧ (∀ (w : World) (Z1 Z2 : Zone) (A B : Option Addr) (a b : Nat), U64s w Z1 A a l → U64s w Z2 B b k → Calls Tryz.prog 35 #[.agg #[.bool s, .slice A l.length a, .slice B k.length b]] w fun e w' => ∃ Av cv, e = .returned (.tuple #[.agg #[.bool r, .slice Av m.length cv], .int .i64 E]) ∧ U64s w' (new w.heap.size) Av cv m ∧ Below w.heap.size w w') := by
  cases ho : okQ s l k with
  | true =>
    obtain ⟨p, hp⟩ := okQ_nm ho s1 s2
    exact ⟨_, _, 0, fun w Z1 Z2 A B a b u1 u2 => rfloor_q hp (Nm.mk' (rq p.num (p.den : Int) true)) u1 u2 (by omega) (by omega), fun w Z1 Z2 A B a b u1 u2 => r6floor_ok hp (Nm.mk' (rq p.num (p.den : Int) true)) u1 u2 q1 q2⟩
  | false => exact ⟨false, [], 8, fun w Z1 Z2 A B a b u1 u2 => (rfloor_bad u1 u2 q1 q2 ho).mono (fun e w' ⟨h1, h2⟩ => ⟨none, 0, h1, U64s.nil _ _, h2⟩), fun w Z1 Z2 A B a b u1 u2 => (r6floor_err u1 u2 q1 q2 ho).mono (fun e w' ⟨h1, h2⟩ => ⟨none, 0, h1, U64s.nil _ _, h2⟩)⟩
theorem pair_Ceil (s : Bool) (l k : List Nat) (q1 : l.length ≤ 300) (q2 : k.length ≤ 300) (s1 : Small l) (s2 : Small k) :
    ∃ (r : Bool) (m : List Nat) (E : Int), (∀ (w : World) (Z1 Z2 : Zone) (A B : Option Addr) (a b : Nat), U64s w Z1 A a l → U64s w Z2 B b k → Calls Tryz.prog 36 #[.agg #[.bool s, .slice A l.length a, .slice B k.length b]] w fun e w' => ∃ Av cv, e = .returned (.tuple #[.agg #[.bool r, .slice Av m.length cv], .int .i64 E]) ∧ U64s w' (new w.heap.size) Av cv m ∧ Below w.heap.size w w') ∧ (∀ (w : World) (Z1 Z2 : Zone) (A B : Option Addr) (a b : Nat), U64s w Z1 A a l → U64s w Z2 B b k → Calls Tryz.prog 37 #[.agg #[.bool s, .slice A l.length a, .slice B k.length b]] w fun e w' => ∃ Av cv, e = .returned (.tuple #[.agg #[.bool r, .slice Av m.length cv], .int .i64 E]) ∧ U64s w' (new w.heap.size) Av cv m ∧ Below w.heap.size w w') := by
  cases ho : okQ s l k with
  | true =>
    obtain ⟨p, hp⟩ := okQ_nm ho s1 s2
    exact ⟨_, _, 0, fun w Z1 Z2 A B a b u1 u2 => rceil_q hp (Nm.mk' (rq p.num (p.den : Int) false)) u1 u2 (by omega) (by omega), fun w Z1 Z2 A B a b u1 u2 => r6ceil_ok hp (Nm.mk' (rq p.num (p.den : Int) false)) u1 u2 q1 q2⟩
  | false => exact ⟨false, [], 8, fun w Z1 Z2 A B a b u1 u2 => (rceil_bad u1 u2 q1 q2 ho).mono (fun e w' ⟨h1, h2⟩ => ⟨none, 0, h1, U64s.nil _ _, h2⟩), fun w Z1 Z2 A B a b u1 u2 => (r6ceil_err u1 u2 q1 q2 ho).mono (fun e w' ⟨h1, h2⟩ => ⟨none, 0, h1, U64s.nil _ _, h2⟩)⟩
end Go.Proofs.YtceenaegchlbcaaGreatDoor
