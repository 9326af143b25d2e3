/-
  whole.Parse: the number of a text with a minus ahead or none, or the error; and plain facts on texts of whole numbers. No conditions.
-/
import Derived.Test.YtceenaegchlbcaaGreatDoorEDigR
import Derived.Test.YtceenaegchlbcaaGreatDoorEWhT
import Derived.Test.YtceenaegchlbcaaGreatDoorEWhU
import Derived.Test.YtceenaegchlbcaaGreatDoorEShelfQ
namespace Go.Proofs.YtceenaegchlbcaaGreatDoor
open Go.RowKit
set_option linter.unusedVariables false
set_option linter.unusedSimpArgs false

/-- The sign and the words that are parsed. -/
def wparS (l : List UInt8) : Bool := if wparE l = 0 then negL l else false
def wparL (l : List UInt8) : List Nat := if wparE l = 0 then limbs (dval (restL l)) else []

theorem sizeF {l : List UInt8} (h : l.length ≤ 4096) (ha : l.all isDg = true) : size (dval l) ≤ 16384 := by
  refine size_le_of ?_
  refine Nat.lt_of_lt_of_le (dval_lt l ha) (Nat.le_trans (Nat.pow_le_pow_right (by omega) h) ?_)
  obtain ⟨q, hq⟩ : ∃ q, q = 4096 := ⟨_, rfl⟩
  rw [show 16384 = 4 * 4096 by omega, ← hq, Nat.pow_mul]
  exact Nat.pow_le_pow_left (by decide) q
theorem text_okD {l : List UInt8} (h : okD l) : errT (limbs (dval l)) = 0 ∧ txtT (limbs (dval l)) = l := by
  obtain ⟨t1, t2⟩ := text_few (n := dval l) (sizeF h.1 h.2.2.2) (by rw [dec_ok h]; exact h.1)
  unfold errT txtT
  rw [if_pos (good_limbs _), if_pos (good_limbs _), val_limbs, t1, t2, dec_ok h]
  exact ⟨rfl, rfl⟩
theorem okD_text {l : List Nat} (h : errT l = 0) : good l = true ∧ okD (txtT l) ∧ dval (txtT l) = val l := by
  cases hg : good l with
  | false =>
    unfold errT at h
    rw [hg, if_neg (by decide)] at h
    omega
  | true =>
    unfold errT at h
    unfold txtT
    rw [if_pos hg] at h ⊢
    unfold textE at h
    unfold textS
    split at h
    · rename_i hk
      rw [if_pos hk]
      exact ⟨rfl, ok_dec hk.2, dval_dec _⟩
    · exact absurd h (by decide)
theorem strB {s : ByteArray} {l : List UInt8} (h : s.data.toList = l) : (⟨l.toArray⟩ : ByteArray) = s := by
  rw [← h]
theorem okD_neg {l : List UInt8} (h : okD l) : negL l = false ∧ restL l = l := by
  obtain ⟨_, h0, _, ha⟩ := h
  cases l with
  | nil => exact absurd rfl h0
  | cons b l =>
    rw [List.all_cons, Bool.and_eq_true] at ha
    have h1 := isDg_iff.1 ha.1
    have hb : b ≠ 45 := fun e => by subst e; exact absurd h1.1 (by decide)
    unfold negL restL
    constructor <;> split <;> simp_all
theorem okD_nought {l : List UInt8} (h : okD l) (h0 : dval l ≠ 0) : noughtL l = false := by
  obtain ⟨_, _, hh, _⟩ := h
  unfold noughtL
  split
  · rename_i m
    refine absurd ?_ h0
    rw [hh rfl]
    decide +kernel
  · rfl
theorem wpar_zero {l : List UInt8} (h : wparE l = 0) : okD (restL l) := (wpar_text h).1
/-- A whole number's text is parsed as it was. -/
theorem wtext_par {s : Bool} {l : List Nat} (hs : Small l) (h : wErrT s l = 0) : wparE (wTxtT s l) = 0 ∧ wparS (wTxtT s l) = s ∧ wparL (wTxtT s l) = l := by
  cases ho : okI s l with
  | false =>
    unfold wErrT at h
    rw [ho, if_neg (by decide)] at h
    omega
  | true =>
    unfold wErrT at h
    rw [if_pos ho] at h
    obtain ⟨hg, hk, hv⟩ := okD_text h
    have hp := parseE_zero.2 hk
    have e0 : wTxtT s l = if s = true then 45 :: txtT l else txtT l := by
      unfold wTxtT
      rw [if_pos ho]
      simp [h]
    rw [e0]
    cases s with
    | true =>
      rw [if_pos rfl]
      have hl : l ≠ [] := fun e => by subst e; simp [okI] at ho
      have hv0 : val l ≠ 0 := fun e => hl (val_zero hg hs e)
      have hn := okD_nought hk (by rw [hv]; exact hv0)
      have e1 : wparE (45 :: txtT l) = 0 := (wpar_of (l := 45 :: txtT l) (by show (true && noughtL (txtT l)) = false; rw [hn]; rfl)).trans hp
      refine ⟨e1, ?_, ?_⟩
      · unfold wparS
        rw [if_pos e1]
        rfl
      · unfold wparL
        rw [if_pos e1]
        show limbs (dval (txtT l)) = l
        rw [hv]
        exact limbs_val l hs hg
    | false =>
      rw [if_neg (by decide)]
      obtain ⟨h1, h2⟩ := okD_neg hk
      have e1 : wparE (txtT l) = 0 := by
        rw [wpar_of (by rw [h1]; rfl), h2]
        exact hp
      refine ⟨e1, ?_, ?_⟩
      · unfold wparS
        rw [if_pos e1]
        exact h1
      · unfold wparL
        rw [if_pos e1, h2, hv]
        exact limbs_val l hs hg
/-- What is parsed is that text. -/
theorem wpar_back {l : List UInt8} (h : wparE l = 0) : okI (wparS l) (wparL l) = true ∧ (wparL l).length ≤ 256 ∧ wErrT (wparS l) (wparL l) = 0 ∧ wTxtT (wparS l) (wparL l) = l := by
  obtain ⟨h1, h2, h3⟩ := wpar_text h
  obtain ⟨t1, t2⟩ := text_okD h1
  have eS : wparS l = negL l := if_pos h
  have eL : wparL l = limbs (dval (restL l)) := if_pos h
  rw [eS, eL]
  have ho : okI (negL l) (limbs (dval (restL l))) = true := by
    unfold okI
    rw [good_limbs]
    cases hn : negL l
    · rfl
    · have hp := (len_pos (m := dval (restL l))).2 (h2 hn)
      have : ((limbs (dval (restL l))).length == 0) = false := beq_eq_false_iff_ne.2 (by omega)
      rw [this]
      rfl
  refine ⟨ho, dval_len h1.1 h1.2.2.2, ?_, ?_⟩
  · unfold wErrT
    rw [if_pos ho]
    exact t1
  · unfold wTxtT
    rw [if_pos ho, t1, t2]
    rw [dec_ok h1] at h3
    cases hn : negL l
    · rw [hn] at h3
      simpa using h3
    · rw [hn] at h3
      simpa using h3
theorem wpar_none {l : List UInt8} (h : wparE l ≠ 0) : wparS l = false ∧ wparL l = [] := ⟨if_neg h, if_neg h⟩
theorem wtext_nought : wErrT false [] = 0 ∧ wTxtT false [] = [48] := by
  have h0 : limbs 0 = [] := limbs_eq_nil.2 rfl
  have t : textE 0 = 0 ∧ textS 0 = Lib.decDigits 0 := text_few (by decide) (by rw [Lib.decDigits_one (by omega)]; decide)
  have e : errT [] = 0 ∧ txtT [] = [48] := by
    have hv : val ([] : List Nat) = 0 := rfl
    unfold errT txtT
    rw [if_pos (show good [] = true from rfl), if_pos (show good [] = true from rfl), hv, t.1, t.2, Lib.decDigits_one (by omega)]
    exact ⟨rfl, rfl⟩
  unfold wErrT wTxtT
  rw [if_pos (show okI false [] = true from rfl), if_pos (show okI false [] = true from rfl), e.1, e.2]
  exact ⟨rfl, rfl⟩

theorem wpar_case (l : List UInt8) : (negL l = true ∧ noughtL (restL l) = true ∧ wparE l = 8 ∧ wparS l = false ∧ wparL l = []) ∨
    ((negL l = true ∧ noughtL (restL l) = false ∨ negL l = false) ∧ (parseE (restL l) != 0) = true ∧ wparE l = parseE (restL l) ∧ wparS l = false ∧ wparL l = []) ∨
    ((negL l = true ∧ noughtL (restL l) = false ∨ negL l = false) ∧ parseE (restL l) = 0 ∧ wparE l = 0 ∧ wparS l = negL l ∧ wparL l = limbs (parseN (restL l)) ∧ (negL l && decide (0 < (limbs (parseN (restL l))).length)) = negL l) := by
  by_cases h : negL l = true ∧ noughtL (restL l) = true
  · have e8 : wparE l = 8 := if_pos h
    exact .inl ⟨h.1, h.2, e8, if_neg (by omega), if_neg (by omega)⟩
  · have hc : negL l = true ∧ noughtL (restL l) = false ∨ negL l = false := by
      cases h1 : negL l
      · exact .inr rfl
      · cases h2 : noughtL (restL l)
        · exact .inl ⟨rfl, rfl⟩
        · exact absurd ⟨h1, h2⟩ h
    have e0 : wparE l = parseE (restL l) := if_neg h
    by_cases h0 : parseE (restL l) = 0
    · obtain ⟨p1, p2⟩ := parse_ok (parseE_zero.1 h0)
      have ez : wparE l = 0 := e0.trans h0
      have eS : wparS l = negL l := if_pos ez
      have eL : wparL l = limbs (parseN (restL l)) := (if_pos ez).trans (by rw [p2])
      refine .inr (.inr ⟨hc, h0, ez, eS, eL, ?_⟩)
      cases hn : negL l
      · rfl
      · have := (wpar_text ez).2.1 hn
        rw [decide_eq_true (len_pos.2 (by rw [p2]; exact this))]
        rfl
    · exact .inr (.inl ⟨hc, by simp [h0], e0, if_neg (by omega), if_neg (by omega)⟩)

set_option maxRecDepth 100000 in
set_option maxHeartbeats 2000000 in
theorem wparse_any {w : World} (s : ByteArray) (hs : s.size ≤ 9223372036854775807) :
    Calls Tryz.prog 19 #[.string s] w fun e w' => ∃ A c, e = .returned (.tuple #[.agg #[.bool (wparS s.data.toList), .slice A (wparL s.data.toList).length c], .int .i64 (wparE s.data.toList)]) ∧ U64s w' (new w.heap.size) A c (wparL s.data.toList) ∧ Below w.heap.size w w' := by
  obtain ⟨x, hx⟩ : ∃ x : ByteArray, x = ⟨(restL s.data.toList).toArray⟩ := ⟨_, rfl⟩
  have hxl : x.data.toList = restL s.data.toList := by rw [hx]
  have hxs : x.size ≤ 9223372036854775807 := by
    have h1 : (restL s.data.toList).length ≤ s.data.toList.length := by
      unfold restL
      split
      · rename_i h; rw [h]; simp
      · omega
    rw [str_size hxl]
    rw [str_size (s := s) rfl] at hs
    omega
  have hcut : ∀ W, Calls Tryz.prog 72 #[.string s, .string ⟨#[45]⟩] W fun e w' => e = .returned (.tuple #[.string x, .bool (negL s.data.toList)]) ∧ w' = W := fun W => by
    have := Tryz.cutPrefix_ s ⟨#[45]⟩ W
    rw [show (⟨#[45]⟩ : ByteArray).data.toList = [45] from rfl, trim_minus, has_minus, ← hx] at this
    exact this
  have hhas : ∀ W, Calls Tryz.prog 73 #[.string x, .string ⟨#[48]⟩] W fun e w' => e = .returned (.bool (noughtL (restL s.data.toList))) ∧ w' = W := fun W => by
    have := Tryz.hasPrefix_ x ⟨#[48]⟩ W
    rw [show (⟨#[48]⟩ : ByteArray).data.toList = [48] from rfl, has_nought, hxl] at this
    exact this
  have hpar : ∀ W, Calls Tryz.prog 8 #[.string x] W fun e w' => ∃ v, e = .returned (.tuple #[v, .int .i64 (parseE (restL s.data.toList))]) ∧ IsN w' (new W.heap.size) v (parseN (restL s.data.toList)) ∧ Below W.heap.size W w' := fun W => by
    have := gparse_any (w := W) x hxs
    rw [hxl] at this
    exact this
  have hcase := wpar_case s.data.toList
  have bR := Box.new w (.bool false) (.slice none 0 0) 36
  have hB0 : Below w.heap.size w (w.alloc (.cells #[.bool false, .slice none 0 0] 36)) := (Below.refl _ w).alloc (Nat.le_refl _) _
  clear hx hxl hxs
  generalize wparE s.data.toList = WE at *
  generalize wparS s.data.toList = WS at *
  generalize wparL s.data.toList = WL at *
  generalize negL s.data.toList = ng at *
  generalize noughtL (restL s.data.toList) = no at *
  generalize parseE (restL s.data.toList) = pe at *
  generalize parseN (restL s.data.toList) = pn at *
  rcases hcase with ⟨rfl, rfl, rfl, rfl, rfl⟩ | ⟨h1, h2, rfl, rfl, rfl⟩ | ⟨h1, rfl, rfl, rfl, rfl, h6⟩
  · have Hcut := Lib.hid hcut
    have Hhas := Lib.hid hhas
    clear hcut hhas hpar
    go_enter Tryz.func19, Tryz.ntmps19
    go_wp2_with fail
    refine (Hcut.out _).mono ?_
    rintro e w1 ⟨rfl, hw⟩
    rw [← hw] at bR hB0
    clear hw
    go_wp2_with fail
    refine (Hhas.out _).mono ?_
    rintro e w2 ⟨rfl, rfl⟩
    have hP := bR.put hB0 (Nat.le_refl _) (.bool false) (.slice none 0 0)
    have HP := Lib.hid hP
    obtain ⟨q0, q1, f0, f1, _⟩ := bR
    clear hP
    go_wp2
    refine bodyPost_ret (res_int2 rfl _ w.heap.size rfl HP.out.c0 HP.out.c1) rfl ?_
    exact ⟨none, 0, rfl, U64s.nil _ _, HP.out.bel⟩
  · have Hcut := Lib.hid hcut
    have Hhas := Lib.hid hhas
    have Hpar := Lib.hid hpar
    clear hcut hhas hpar
    rcases h1 with ⟨rfl, rfl⟩ | rfl
    · go_enter Tryz.func19, Tryz.ntmps19
      go_wp2_with fail
      refine (Hcut.out _).mono ?_
      rintro e w1 ⟨rfl, hw⟩
      rw [← hw] at bR hB0
      clear hw
      go_wp2_with fail
      refine (Hhas.out _).mono ?_
      rintro e w2 ⟨rfl, rfl⟩
      go_wp2_with fail
      refine (Hpar.out _).mono ?_
      rintro e w2 ⟨v, rfl, hv, hb⟩
      have bR2 := bR.below hb
      have hP := bR2.put (from_ hB0 hb) (Nat.le_refl _) (.bool false) (.slice none 0 0)
      have HP := Lib.hid hP
      obtain ⟨q0, q1, f0, f1, _⟩ := bR2
      obtain ⟨A, c, rfl, hv⟩ := hv
      clear hP hv bR
      go_wp2
      refine bodyPost_ret (res_int2 rfl _ w.heap.size rfl HP.out.c0 HP.out.c1) rfl ?_
      exact ⟨none, 0, rfl, U64s.nil _ _, HP.out.bel⟩
    · go_enter Tryz.func19, Tryz.ntmps19
      go_wp2_with fail
      refine (Hcut.out _).mono ?_
      rintro e w1 ⟨rfl, hw⟩
      rw [← hw] at bR hB0
      clear hw
      go_wp2_with fail
      refine (Hpar.out _).mono ?_
      rintro e w2 ⟨v, rfl, hv, hb⟩
      have bR2 := bR.below hb
      have hP := bR2.put (from_ hB0 hb) (Nat.le_refl _) (.bool false) (.slice none 0 0)
      have HP := Lib.hid hP
      obtain ⟨q0, q1, f0, f1, _⟩ := bR2
      obtain ⟨A, c, rfl, hv⟩ := hv
      clear hP hv bR
      go_wp2
      refine bodyPost_ret (res_int2 rfl _ w.heap.size rfl HP.out.c0 HP.out.c1) rfl ?_
      exact ⟨none, 0, rfl, U64s.nil _ _, HP.out.bel⟩
  · have Hcut := Lib.hid hcut
    have Hhas := Lib.hid hhas
    have Hpar := Lib.hid hpar
    have H6 := Lib.hid h6
    clear hcut hhas hpar h6
    rcases h1 with ⟨rfl, rfl⟩ | rfl
    · go_enter Tryz.func19, Tryz.ntmps19
      go_wp2_with fail
      refine (Hcut.out _).mono ?_
      rintro e w1 ⟨rfl, hw⟩
      rw [← hw] at bR hB0
      clear hw
      go_wp2_with fail
      refine (Hhas.out _).mono ?_
      rintro e w2 ⟨rfl, rfl⟩
      go_wp2_with fail
      refine (Hpar.out _).mono ?_
      rintro e w5 ⟨v, rfl, hv, hb⟩
      have bR2 := bR.below hb
      have hB2 := from_ hB0 hb
      have hsz := hb.size
      have hlt := bR.lt
      clear hb bR hB0
      go_wp2_with fail
      refine (made_at hv H6.out).mono ?_
      rintro e w3 ⟨rfl, hb⟩
      have bR3 := bR2.below hb
      obtain ⟨A, c, rfl, hu⟩ := hv
      have hP := bR3.put (from_ hB2 hb) (Nat.le_refl _) (.bool true) (.slice A (limbs pn).length c)
      have hu2 := hP.keep (B := w2.heap.size) (by omega) (l := limbs pn) ⟨A, c, rfl, hu.below hb⟩
      have Hu := Lib.hid hu2
      have HP := Lib.hid hP
      obtain ⟨q0, q1, f0, f1, _⟩ := bR3
      clear hP hu hu2 bR2 hB2 hb hsz hlt
      go_wp2
      refine bodyPost_ret (res_int2 rfl _ w.heap.size rfl HP.out.c0 HP.out.c1) rfl ?_
      obtain ⟨A', c', e', hu⟩ := Hu.out
      injection e' with e1 _ e3
      subst e1 e3
      exact ⟨A, c, rfl, hu, HP.out.bel⟩
    · go_enter Tryz.func19, Tryz.ntmps19
      go_wp2_with fail
      refine (Hcut.out _).mono ?_
      rintro e w1 ⟨rfl, hw⟩
      rw [← hw] at bR hB0
      clear hw
      go_wp2_with fail
      refine (Hpar.out _).mono ?_
      rintro e w2 ⟨v, rfl, hv, hb⟩
      have bR2 := bR.below hb
      have hB2 := from_ hB0 hb
      have hsz := hb.size
      have hlt := bR.lt
      clear hb bR hB0
      go_wp2_with fail
      refine (made_at hv H6.out).mono ?_
      rintro e w3 ⟨rfl, hb⟩
      have bR3 := bR2.below hb
      obtain ⟨A, c, rfl, hu⟩ := hv
      have hP := bR3.put (from_ hB2 hb) (Nat.le_refl _) (.bool false) (.slice A (limbs pn).length c)
      have hu2 := hP.keep (B := w1.heap.size) (by omega) (l := limbs pn) ⟨A, c, rfl, hu.below hb⟩
      have Hu := Lib.hid hu2
      have HP := Lib.hid hP
      obtain ⟨q0, q1, f0, f1, _⟩ := bR3
      clear hP hu hu2 bR2 hB2 hb hsz hlt
      go_wp2
      refine bodyPost_ret (res_int2 rfl _ w.heap.size rfl HP.out.c0 HP.out.c1) rfl ?_
      obtain ⟨A', c', e', hu⟩ := Hu.out
      injection e' with e1 _ e3
      subst e1 e3
      exact ⟨A, c, rfl, hu, HP.out.bel⟩

theorem wparse_at {w : World} (s : ByteArray) {e0 : Int} {sg : Bool} {m : List Nat} (he : wparE s.data.toList = e0) (hg : wparS s.data.toList = sg) (hm : wparL s.data.toList = m) (hs : s.size ≤ 9223372036854775807) :
    Calls Tryz.prog 19 #[.string s] w fun e w' => ∃ A c, e = .returned (.tuple #[.agg #[.bool sg, .slice A m.length c], .int .i64 e0]) ∧ U64s w' (new w.heap.size) A c m ∧ Below w.heap.size w w' := by
  subst he
  subst hg
  subst hm
  exact wparse_any s hs
end Go.Proofs.YtceenaegchlbcaaGreatDoor
