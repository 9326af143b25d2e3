/-
  The document's own answer, layer 4: Tens and Text of any words. No conditions but bounds on lengths.
  facetroomlaw04.of, facetroomlaw04.alive: what they answer. The one premise: the table of powers of ten reads as it is laid. No conditions.
-/
import Derived.Test.YtceenaegchlbcaaGreatDoorERatC
import Derived.Test.YtceenaegchlbcaaGreatDoorERefI
import Derived.Test.YtceenaegchlbcaaGreatDoorERatB
import Derived.Test.YtceenaegchlbcaaGreatDoorEDigC
import Derived.Test.YtceenaegchlbcaaGreatDoorENatE
namespace Go.Proofs.YtceenaegchlbcaaGreatDoor
open Go.RowKit
set_option linter.unusedVariables false
set_option linter.unusedSimpArgs false

/-- What the loop has made: the digits behind those of m. -/
def tensI (n m : Nat) (l : List UInt8) : Prop := (if m = 0 then l else Lib.decDigits m ++ l) = Lib.decDigits n
theorem tens_step {n m : Nat} {l : List UInt8} (h : tensI n m l) (hm : m ≠ 0) : tensI n (m / 10) (UInt8.ofNat (48 + m % 10) :: l) := by
  unfold tensI at h ⊢
  rw [if_neg hm] at h
  rw [← h]
  by_cases h1 : m < 10
  · rw [if_pos (by omega), Lib.decDigits_one h1, show m % 10 = m by omega]
    rfl
  · rw [if_neg (by omega), dec_big (u := m) (by omega), List.append_assoc]
    rfl
theorem tens_len {n m : Nat} {l : List UInt8} (h : tensI n m l) : l.length ≤ (Lib.decDigits n).length := by
  unfold tensI at h
  rw [← h]
  split
  · exact Nat.le_refl _
  · rw [List.length_append]
    omega
theorem dig_of (d : Nat) (h : d < 10) : ((⟨#[48, 49, 50, 51, 52, 53, 54, 55, 56, 57]⟩ : ByteArray).extract d (d + 1)) = ⟨#[UInt8.ofNat (48 + d)]⟩ := by
  have : ∀ n, n < 10 → ((⟨#[48, 49, 50, 51, 52, 53, 54, 55, 56, 57]⟩ : ByteArray).extract n (n + 1)) = ⟨#[UInt8.ofNat (48 + n)]⟩ := by decide +kernel
  exact this d h
theorem word_small {d : Nat} (h : d < 10) : wordX (limbs d) = (d : Int) ∧ errW (limbs d) = 0 := by
  have hl : (limbs d).length ≤ 1 := len_limbs_le (by rw [Nat.pow_one]; omega)
  have hg := good_limbs d
  unfold wordX errW
  rw [if_pos hg, if_pos hg, if_pos hl, if_pos hl]
  refine ⟨?_, rfl⟩
  by_cases h0 : d = 0
  · subst h0
    rw [limbs_eq_nil.2 rfl]
    rfl
  · rw [limbs_one (by omega) (by omega)]
    rfl
theorem str_sz (s : ByteArray) : s.size = s.data.toList.length := by simp
theorem strT {x : ByteArray} {l : List UInt8} (h : x.data.toList = l) : Value.string x = strV l := by
  rw [← h]

set_option maxRecDepth 100000 in
set_option maxHeartbeats 2000000 in
theorem rtens_good {w : World} {Z : Zone} {a : Value} {n : Nat} (ha : IsN w Z a n) (hl : (limbs n).length ≤ 300) (hd : (Lib.decDigits n).length ≤ 20000) :
    Calls Tryz.prog 53 #[a] w fun e w' => e = .returned (strV (Lib.decDigits n)) ∧ Below w.heap.size w w' := by
  have e0 : limbs 0 = [] := limbs_eq_nil.2 rfl
  by_cases h0 : n = 0
  · subst h0
    obtain ⟨A, c, rfl, hu⟩ := ha
    rw [e0] at hu ⊢
    have hd : strV (Lib.decDigits 0) = .string ⟨#[48]⟩ := by rw [Lib.decDigits_one (by omega)]; rfl
    rw [hd]
    clear hu
    go_enter Tryz.func53, Tryz.ntmps53
    go_wp2
    go_ret
    exact ⟨rfl, Below.refl _ _⟩
  · have hpos := len_pos.2 h0
    have Ia := Lib.hid ha.old
    have hst : tensI n n [] := by unfold tensI; rw [if_neg h0, List.append_nil]
    have Hst := Lib.hid hst
    have Hd := Lib.hid hd
    have Hl := Lib.hid hl
    obtain ⟨A, c, rfl, hu⟩ := ha
    have hz : (((limbs n).length : Int) == 0) = false := beq_eq_false_iff_ne.2 (by omega)
    obtain ⟨L, hL⟩ : ∃ L, L = (limbs n).length := ⟨_, rfl⟩
    rw [← hL] at hz hpos Ia ⊢
    clear hu hst hd hl hL h0
    go_enter Tryz.func53, Tryz.ntmps53
    go_wp2
    go_loopw [0, 3] (fun u v wr => ∃ (m : Nat) (x : ByteArray), v = .string x ∧ IsN wr old u m ∧ Hid (tensI n m x.data.toList) ∧ Hid ((limbs m).length ≤ 300) ∧ Below w.heap.size w wr) (fun u _ wr => numAt wr u)
    case atStart => exact ⟨n, ⟨#[]⟩, rfl, Ia.out, Hst, Hl, Below.refl _ _⟩
    case round =>
      obtain ⟨m, x, rfl, hm, hx, hml, hbel⟩ := hrel
      by_cases hm0 : m = 0
      · subst hm0
        obtain ⟨A1, c1, rfl, hu1⟩ := hm
        rw [e0] at hu1 ⊢
        have hfin : x.data.toList = Lib.decDigits n := by have := hx.out; unfold tensI at this; rwa [if_pos rfl] at this
        have Hfin := Lib.hid (strT hfin)
        clear hu1 hx hml hfin
        go_wp2
        go_ret
        exact ⟨by rw [Hfin.out]; rfl, hbel⟩
      · have hxs : x.size ≤ 20000 := by rw [str_sz x]; exact Nat.le_trans (tens_len hx.out) Hd.out
        have hb3 : Below wr.heap.size wr (wr.alloc (.cells #[.int .u64 10] 68)) := (Below.refl _ wr).alloc (Nat.le_refl _) _
        have h10 : IsN (wr.alloc (.cells #[.int .u64 10] 68)) old (.slice (some ⟨wr.heap.size, 0, none⟩) 1 1) 10 := isN_one (by omega) (by omega) (cell_newest rfl rfl)
        have hov := Lib.hid (over_good (hm.below hb3) h10 (by omega) (by have := hml.out; omega) (by decide +kernel))
        have hnm := Lib.hid (numAt_eq hm)
        have Hm0 := Lib.hid hm0
        have Hb3 := Lib.hid hb3
        have hpm := len_pos.2 hm0
        obtain ⟨A1, c1, rfl, hu1⟩ := hm
        obtain ⟨L1, hL1⟩ : ∃ L1, L1 = (limbs m).length := ⟨_, rfl⟩
        rw [← hL1] at hov hnm hpm ⊢
        have hdec : decide ((0 : Int) < (L1 : Int)) = true := decide_eq_true (by omega)
        clear hu1 h10 hb3 hm0 hL1
        go_wp2_with fail
        refine hov.out.mono ?_
        rintro e w2 ⟨q, r, rfl, hq, hr, hb2⟩
        have hB2 := from_ Hb3.out hb2
        obtain ⟨d, hdd⟩ : ∃ d, d = m % 10 := ⟨_, rfl⟩
        have hd10 : d < 10 := by omega
        rw [← hdd] at hr
        have hw := rword_all hr
        rw [(word_small hd10).1, (word_small hd10).2] at hw
        have Hw := Lib.hid hw
        have Hq := Lib.hid hq
        have HB2 := Lib.hid hB2
        have Hdd := Lib.hid hdd
        clear hw hq hr hb2 hB2 hov Hb3 hdd
        go_wp2_with fail
        refine Hw.out.mono ?_
        rintro e w3 ⟨rfl, rfl⟩
        have hext := dig_of d hd10
        have hxx : (((⟨#[UInt8.ofNat (48 + d)]⟩ : ByteArray) ++ x).data.toList) = UInt8.ofNat (48 + d) :: x.data.toList := by simp
        have Hxx := Lib.hid hxx
        have Hext := Lib.hid hext
        clear hxx hext Hw
        go_wp2
        go_roundw
        case rel =>
          refine ⟨m / 10, _, rfl, Hq.out.old, Lib.hid ?_, Lib.hid (Nat.le_trans (len_mono (Nat.div_le_self _ _)) hml.out), from_ hbel HB2.out⟩
          rw [Hext.out, Hxx.out, Hdd.out]
          exact tens_step hx.out Hm0.out
        case measure =>
          rw [numAt_eq Hq.out, hnm.out]
          have := Hm0.out
          omega

/-- facetroomref04.Text of any words: what gcd.Text answers. -/
theorem rtext_all {w : World} {Z : Zone} {a : Value} {l : List Nat} (ha : IsU w Z a l) (hl : l.length ≤ 20000) :
    Calls Tryz.prog 7 #[a] w fun e w' => e = .returned (.tuple #[strV (txtT l), .int .i64 (errT l)]) ∧ Below w.heap.size w w' := by
  have hmay := may_any ha
  cases hg : good l with
  | false =>
    have e1 : errT l = 8 := by unfold errT; rw [hg, if_neg (by decide)]
    have e2 : strV (txtT l) = .string ⟨#[]⟩ := by unfold txtT; rw [hg, if_neg (by decide)]; try rfl
    rw [e1, e2]
    rw [hg] at hmay
    have Hm := Lib.hid hmay
    clear hmay hg e1 e2
    obtain ⟨A, c, rfl, ha⟩ := ha
    clear ha
    generalize l.length = L at *
    go_enter Tryz.func7, Tryz.ntmps7
    go_wp2_with fail
    refine Hm.out.mono ?_
    rintro e w1 ⟨rfl, rfl⟩
    go_wp2
    go_ret2
    exact ⟨rfl, Below.refl _ _⟩
  | true =>
    have hN := ha.num hg
    have hlv : limbs (val l) = l := limbs_val l ha.small hg
    have e1 : errT l = textE (val l) := by unfold errT; rw [if_pos hg]
    have e2 : txtT l = textS (val l) := by unfold txtT; rw [if_pos hg]
    rw [e1, e2]
    rw [hg] at hmay
    have hsz := rsize_good hN (by rw [hlv]; omega)
    have Hm := Lib.hid hmay
    have Hsz := Lib.hid hsz
    clear hmay hg e1 e2 hsz
    by_cases h1 : size (val l) ≤ 16384
    · have hl3 : (limbs (val l)).length ≤ 300 := by
        have hq : ∀ q, 16384 ≤ 64 * q → (limbs (val l)).length ≤ q := fun q h => len_limbs_le (by rw [W_pow]; exact Nat.lt_of_lt_of_le (lt_size _) (Nat.pow_le_pow_right (by omega) (by omega)))
        exact hq 300 (by omega)
      have hdl := dec_len_size (val l)
      have htn := Lib.hid (rtens_good hN hl3 (by omega))
      have hdl2 : (Lib.decDigits (val l)).length ≤ 20000 := by omega
      have hd1 : decide ((16384 : Int) < (size (val l) : Int)) = false := decide_eq_false (by omega)
      by_cases h2 : (Lib.decDigits (val l)).length ≤ 4096
      · obtain ⟨t1, t2⟩ := text_few h1 h2
        rw [t1, t2]
        obtain ⟨x, hx⟩ : ∃ x : ByteArray, x = ⟨(Lib.decDigits (val l)).toArray⟩ := ⟨_, rfl⟩
        have hxs : x.size ≤ 4096 := by rw [hx]; simpa [ByteArray.size] using h2
        rw [show strV (Lib.decDigits (val l)) = .string x by rw [hx]; try rfl] at htn ⊢
        have hd2 : decide ((4096 : Int) < (x.size : Int)) = false := decide_eq_false (by omega)
        generalize size (val l) = S at *
        clear hx hdl hdl2 t1 t2 hN hlv h1 h2 hl3
        obtain ⟨A, c, rfl, ha⟩ := ha
        clear ha
        generalize l.length = L at *
        go_enter Tryz.func7, Tryz.ntmps7
        go_wp2_with fail
        refine Hm.out.mono ?_
        rintro e w1 ⟨rfl, rfl⟩
        go_wp2_with fail
        refine Hsz.out.mono ?_
        rintro e w2 ⟨rfl, rfl⟩
        go_wp2_with fail
        refine htn.out.mono ?_
        rintro e w3 ⟨rfl, hb⟩
        go_wp2
        go_ret2
        exact ⟨rfl, hb⟩
      · obtain ⟨t1, t2⟩ := text_many (n := val l) (fun h => h2 h.2)
        rw [t1, t2]
        obtain ⟨x, hx⟩ : ∃ x : ByteArray, x = ⟨(Lib.decDigits (val l)).toArray⟩ := ⟨_, rfl⟩
        have hxs : 4096 < x.size := by rw [hx]; simpa [ByteArray.size] using h2
        rw [show strV (Lib.decDigits (val l)) = .string x by rw [hx]; try rfl] at htn
        have hd2 : decide ((4096 : Int) < (x.size : Int)) = true := decide_eq_true (by omega)
        generalize size (val l) = S at *
        clear hx hdl hdl2 t1 t2 hN hlv h1 h2 hl3
        obtain ⟨A, c, rfl, ha⟩ := ha
        clear ha
        generalize l.length = L at *
        go_enter Tryz.func7, Tryz.ntmps7
        go_wp2_with fail
        refine Hm.out.mono ?_
        rintro e w1 ⟨rfl, rfl⟩
        go_wp2_with fail
        refine Hsz.out.mono ?_
        rintro e w2 ⟨rfl, rfl⟩
        go_wp2_with fail
        refine htn.out.mono ?_
        rintro e w3 ⟨rfl, hb⟩
        go_wp2
        go_ret2
        exact ⟨rfl, hb⟩
    · obtain ⟨t1, t2⟩ := text_many (n := val l) (fun h => h1 h.1)
      rw [t1, t2]
      have hd1 : decide ((16384 : Int) < (size (val l) : Int)) = true := decide_eq_true (by omega)
      have hsb : size (val l) ≤ 2000000 := by
        have h3 := lt_pow_len (val l)
        rw [W_pow, hlv] at h3
        have := size_le_of h3
        omega
      generalize size (val l) = S at *
      clear t1 t2 hN hlv h1
      obtain ⟨A, c, rfl, ha⟩ := ha
      clear ha
      generalize l.length = L at *
      go_enter Tryz.func7, Tryz.ntmps7
      go_wp2_with fail
      refine Hm.out.mono ?_
      rintro e w1 ⟨rfl, rfl⟩
      go_wp2_with fail
      refine Hsz.out.mono ?_
      rintro e w2 ⟨rfl, rfl⟩
      go_wp2
      go_ret2
      exact ⟨rfl, Below.refl _ _⟩
end Go.Proofs.YtceenaegchlbcaaGreatDoor

namespace Go.Proofs.YtceenaegchlbcaaGreatDoor
open Go.RowKit
set_option linter.unusedVariables false
set_option linter.unusedSimpArgs false

theorem keepA4 {W : World} {o : Obj} {g i : Nat} {v : Value} (h : W.cell? ⟨g, i, none⟩ = some v) : (W.alloc o).cell? ⟨g, i, none⟩ = some v := by
  have hl := lt_of_cell h
  exact (((Below.refl W.heap.size W).alloc (Nat.le_refl _) o).cell (p := ⟨g, i, none⟩) hl).trans h

/-- Digits, with fuel. -/
def decF : Nat → Nat → List UInt8
  | 0, _ => []
  | f + 1, u => if u < 10 then [UInt8.ofNat (48 + u)] else decF f (u / 10) ++ [UInt8.ofNat (48 + u % 10)]
theorem decF_eq : ∀ (f u : Nat), u < 10 ^ (f + 1) → Lib.decDigits u = decF (f + 1) u
  | 0, u, h => by
    have h' : u < 10 := by simpa using h
    rw [decF, if_pos h', Lib.decDigits_one h']
  | f + 1, u, h => by
    by_cases hu : u < 10
    · rw [decF, if_pos hu, Lib.decDigits_one hu]
    · rw [Nat.pow_succ] at h
      rw [decF, if_neg hu, dec_big (by omega), decF_eq f (u / 10) (by omega)]

/-- The text of a number that lies in one or two words. -/
theorem text_lit {n : Nat} {s : List UInt8} (f : Nat) (h : n < 10 ^ (f + 1)) (hs : decF (f + 1) n = s) (h2 : size n ≤ 16384) (h4 : s.length ≤ 4096) : textE n = 0 ∧ textS n = s := by
  have e : Lib.decDigits n = s := by rw [decF_eq f n h, hs]
  have := text_few h2 (by rw [e]; exact h4)
  rwa [e] at this

end Go.Proofs.YtceenaegchlbcaaGreatDoor
