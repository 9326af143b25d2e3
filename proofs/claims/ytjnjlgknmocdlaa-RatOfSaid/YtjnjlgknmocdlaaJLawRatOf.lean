/-
  facetroomlaw06.RatOf, walked. No conditions.
-/
import Derived.Test.YtjnjlgknmocdlaaJRatE
import Derived.Test.YtjnjlgknmocdlaaJClone
namespace Go.Proofs.Ytjnjlgknmocdlaa
open Go.RowKit
set_option linter.unusedVariables false
set_option linter.unusedSimpArgs false

theorem ratA_pos {l k : List Nat} (hs : Small l) (hg : good l = true) : (0 < (ratA l k).length) ↔ 0 < l.length := by
  have e : (limbs (val l)).length = l.length := by rw [limbs_val l hs hg]
  unfold ratA
  rw [len_pos, ← e, len_pos]
  constructor
  · intro h h0
    rw [h0, Nat.zero_div] at h
    exact h rfl
  · intro h h0
    have hd := Nat.gcd_dvd_left (val l) (val k)
    have hm := Nat.div_mul_cancel hd
    rw [h0, Nat.zero_mul] at hm
    exact h hm.symm

/-- What both answer: a sign, words above, words below, the error. -/
def rofS (s : Bool) (l : List Nat) (t : Bool) (k : List Nat) : Bool := if errQ s l t k = 0 then (if t = true then !s && decide (0 < l.length) else s) else false
def rofA (s : Bool) (l : List Nat) (t : Bool) (k : List Nat) : List Nat := if errQ s l t k = 0 then ratA l k else []
def rofD (s : Bool) (l : List Nat) (t : Bool) (k : List Nat) : List Nat := if errQ s l t k = 0 then ratD l k else []
theorem errQ_vals (s : Bool) (l : List Nat) (t : Bool) (k : List Nat) : errQ s l t k = 0 ∨ errQ s l t k = 8 ∨ errQ s l t k = 30 := by
  unfold errQ
  split <;> (try split) <;> simp
theorem errQ_zero {s : Bool} {l : List Nat} {t : Bool} {k : List Nat} (h : errQ s l t k = 0) : okI s l = true ∧ okI t k = true ∧ 0 < k.length := by
  unfold errQ at h
  split at h
  · rename_i h1
    split at h
    · cases h
    · exact ⟨h1.1, h1.2, by omega⟩
  · cases h

theorem ratof_any {w : World} {Z Y : Zone} {s t : Bool} {l k : List Nat} {A B : Option Addr} {c d : Nat} (u1 : U64s w Z A c l) (u2 : U64s w Y B d k) (hl : l.length ≤ 1000) (hl2 : k.length ≤ 1000) :
    Calls Try.prog 13 #[.agg #[.bool s, .slice A l.length c], .agg #[.bool t, .slice B k.length d]] w fun e w' => ∃ An cn Ad cd, e = .returned (.tuple #[.agg #[.bool (rofS s l t k), .slice An (rofA s l t k).length cn, .slice Ad (rofD s l t k).length cd], .int .i64 (errQ s l t k)]) ∧ U64s w' (new w.heap.size) An cn (rofA s l t k) ∧ U64s w' (new w.heap.size) Ad cd (rofD s l t k) ∧ Below w.heap.size w w' := by
  by_cases h : errQ s l t k = 0
  · obtain ⟨o1, o2, hk⟩ := errQ_zero h
    have ga : good l = true := by unfold okI at o1; rw [Bool.and_eq_true] at o1; exact o1.1
    have hr : ((s != t) && decide (0 < (ratA l k).length)) = rofS s l t k := by
      unfold rofS
      rw [if_pos h, decide_eq_decide.2 (ratA_pos (k := k) u1.small ga)]
      cases t
      · cases s
        · rfl
        · have : 0 < l.length := by
            unfold okI at o1
            rw [Bool.and_eq_true] at o1
            simpa [List.length_pos_iff] using o1.2
          rw [decide_eq_true this]
          rfl
      · cases s <;> rfl
    have e1 : rofA s l t k = ratA l k := by unfold rofA; rw [if_pos h]
    have e2 : rofD s l t k = ratD l k := by unfold rofD; rw [if_pos h]
    rw [e1, e2, h]
    exact ratof_good u1 u2 o1 o2 hk (by omega) (by omega) hr
  · have e0 : rofS s l t k = false := by unfold rofS; rw [if_neg h]
    have e1 : rofA s l t k = [] := by unfold rofA; rw [if_neg h]
    have e2 : rofD s l t k = [] := by unfold rofD; rw [if_neg h]
    rw [e0, e1, e2]
    refine (ratof_err u1 u2 rfl ((errQ_vals s l t k).resolve_left h)).mono ?_
    rintro e w' ⟨rfl, hb⟩
    exact ⟨none, 0, none, 0, rfl, U64s.nil _ _, U64s.nil _ _, hb⟩

theorem r6of_any {w : World} {Z Y : Zone} {s t : Bool} {l k : List Nat} {A B : Option Addr} {c d : Nat} (u1 : U64s w Z A c l) (u2 : U64s w Y B d k) (hl : l.length ≤ 1000) (hl2 : k.length ≤ 1000) :
    Calls Try.prog 14 #[.agg #[.bool s, .slice A l.length c], .agg #[.bool t, .slice B k.length d]] w fun e w' => ∃ An cn Ad cd, e = .returned (.tuple #[.agg #[.bool (rofS s l t k), .slice An (rofA s l t k).length cn, .slice Ad (rofD s l t k).length cd], .int .i64 (errQ s l t k)]) ∧ U64s w' (new w.heap.size) An cn (rofA s l t k) ∧ U64s w' (new w.heap.size) Ad cd (rofD s l t k) ∧ Below w.heap.size w w' := by
  by_cases h : errQ s l t k = 0
  · obtain ⟨o1, o2, hk⟩ := errQ_zero h
    have e1 : rofA s l t k = ratA l k := by unfold rofA; rw [if_pos h]
    have e2 : rofD s l t k = ratD l k := by unfold rofD; rw [if_pos h]
    rw [e1, e2, h]
    cases t
    · have e0 : rofS s l false k = s := by unfold rofS; rw [if_pos h]; rfl
      rw [e0]
      exact r6of_pos u1 u2 o1 o2 hk hl hl2
    · have e0 : (!s && decide (0 < l.length)) = rofS s l true k := by unfold rofS; rw [if_pos h]; rfl
      exact r6of_neg u1 u2 o1 o2 hk hl hl2 e0
  · have e0 : rofS s l t k = false := by unfold rofS; rw [if_neg h]
    have e1 : rofA s l t k = [] := by unfold rofA; rw [if_neg h]
    have e2 : rofD s l t k = [] := by unfold rofD; rw [if_neg h]
    rw [e0, e1, e2]
    refine (r6of_err u1 u2 rfl ((errQ_vals s l t k).resolve_left h)).mono ?_
    rintro e w' ⟨rfl, hb⟩
    exact ⟨none, 0, none, 0, rfl, U64s.nil _ _, U64s.nil _ _, hb⟩

set_option maxRecDepth 100000 in
set_option maxHeartbeats 4000000 in
theorem lawRatOf {w : World} {Z1 Z2 : Zone} {a b : Value} {s t : Bool} {l k : List Nat} (ha : IsI w Z1 a s l) (hb : IsI w Z2 b t k) :
    Calls Try.prog 3 #[a, b] w fun e w' => e = .returned (.bool true) ∧ Below w.heap.size w w' := by
  obtain ⟨_, rfl, A, ca, rfl, hu⟩ := ha
  obtain ⟨_, rfl, B, cb, rfl, hv⟩ := hb
  have hla := hu.len
  have hlb := hv.len
  obtain ⟨bA, bB, hB0⟩ := boxes2 w (.bool s) (.slice A l.length ca) (.bool t) (.slice B k.length cb) 25
  obtain ⟨a0, a1, _, _, _⟩ := bA
  obtain ⟨b0, b1, _, _, _⟩ := bB
  by_cases h1 : 3 < l.length
  · have m1 : decide ((3 : Int) < (l.length : Int)) = true := decide_eq_true (by omega)
    have HB := Lib.hid hB0
    clear hB0 hu hv h1
    generalize l.length = L at *
    generalize k.length = K at *
    go_enter Try.func3, Try.ntmps3
    go_wp2
    go_ret
    exact ⟨by first | rfl | trivial, HB.out⟩
  have m1 : decide ((3 : Int) < (l.length : Int)) = false := decide_eq_false (by omega)
  by_cases h2 : 3 < k.length
  · have m2 : decide ((3 : Int) < (k.length : Int)) = true := decide_eq_true (by omega)
    have HB := Lib.hid hB0
    clear hB0 hu hv h1 h2
    generalize l.length = L at *
    generalize k.length = K at *
    go_enter Try.func3, Try.ntmps3
    go_wp2
    go_ret
    exact ⟨by first | rfl | trivial, HB.out⟩
  have m2 : decide ((3 : Int) < (k.length : Int)) = false := decide_eq_false (by omega)
  obtain ⟨i0, hi, hz0, hz1, hz2⟩ := info_parts Try.info34
  have hown := ownsRow_empty ((w.alloc (.cells #[.bool s, .slice A l.length ca] 25)).alloc (.cells #[.bool t, .slice B k.length cb] 25)) 34
  simp only [World.size_alloc] at hown
  have hB0' : Below w.heap.size w (((w.alloc (.cells #[.bool s, .slice A l.length ca] 25)).alloc (.cells #[.bool t, .slice B k.length cb] 25)).alloc (.cells #[] 34)) := hB0.alloc hB0.size _
  have hu1 := hu.below hB0'
  have hsm := hu.small
  have HU := Lib.hid hu
  have HV := Lib.hid hv
  have tE : (errQ s l t k == errQ s l t k) = true := beq_self_eq_true _
  have hl3 : l.length ≤ 3 := by omega
  have hk3 : k.length ≤ 3 := by omega
  clear hu hv h1 h2 hB0'
  go_enter Try.func3, Try.ntmps3
  go_wp2_with (at_builtin; go_loud (refine wpList_app _ rfl _ _ 23 rfl (w.heap.size + 1 + 1) 34 i0 Try.underlying23 hi hz0 hz1 hz2 _ _ _ rfl hown rfl rfl hu1 (by omega) (by simp) ?_); intro v' w1 hown' hgrow; obtain ⟨Ao, co, rfl⟩ := own_shape hown'; have hbW := ((Below.refl _ ((w.alloc (.cells #[.bool s, .slice A l.length ca] 25)).alloc (.cells #[.bool t, .slice B k.length cb] 25))).alloc (Nat.le_refl _) (.cells #[] 34)).grown hgrow (by simp) (fun b hb => by have := own_nil_of hown b hb; simpa using this); replace a0 := keepC hbW a0; replace a1 := keepC hbW a1; replace b0 := keepC hbW b0; replace b1 := keepC hbW b1)
  rw [Nat.zero_add, List.nil_append] at hown'
  have hB1 := from_ hB0 hbW
  have uo := isU_after (B := 0) hsm rfl hown' (Nat.zero_le _)
  have ua := HU.out.below hB1
  have ub := HV.out.below hB1
  have HO := Lib.hid uo
  have HA := Lib.hid ua
  have HBb := Lib.hid ub
  have H1 := Lib.hid hB1
  have ga0 : w.heap.size < w1.heap.size := lt_of_cell a0
  have gb0 : w.heap.size + 1 < w1.heap.size := lt_of_cell b0
  have Ha0 := Lib.hid a0
  have Ha1 := Lib.hid a1
  clear hown hown' hgrow hbW hu1 hB0 uo ua ub hB1
  go_wp2_with fail
  refine (ratof_any HO.out HBb.out (by omega) (by omega)).mono ?_
  rintro e w2 ⟨An, cn, Ad, cd, rfl, un, ud, hb2⟩
  have hal2 : Below w2.heap.size w2 (w2.alloc (.cells #[.bool (rofS s l t k), .slice An (rofA s l t k).length cn, .slice Ad (rofD s l t k).length cd] 27)) := (Below.refl _ _).alloc (Nat.le_refl _) _
  obtain ⟨x0, x1, x2, _, _, _, xl⟩ := Box3.new w2 (.bool (rofS s l t k)) (.slice An (rofA s l t k).length cn) (.slice Ad (rofD s l t k).length cd) 27
  have hb2' := from_ hb2 hal2
  replace a0 := keepC hb2' a0
  replace a1 := keepC hb2' a1
  replace b0 := keepC hb2' b0
  replace b1 := keepC hb2' b1
  have H2 := Lib.hid hb2'
  have hw12 := hb2.size
  have Hun := Lib.hid un
  have un2 := un.below hal2
  have ud2 := ud.below hal2
  clear hb2 hal2 un ud hb2'
  go_wp2_with fail
  refine (r6of_any (HA.out.below H2.out) (HBb.out.below H2.out) (by omega) (by omega)).mono ?_
  rintro e w3 ⟨Am, cm, Ae, ce, rfl, um, ue, hb3⟩
  have hal3 : Below w3.heap.size w3 (w3.alloc (.cells #[.bool (rofS s l t k), .slice Am (rofA s l t k).length cm, .slice Ae (rofD s l t k).length ce] 27)) := (Below.refl _ _).alloc (Nat.le_refl _) _
  obtain ⟨y0, y1, y2, _, _, _, yl⟩ := Box3.new w3 (.bool (rofS s l t k)) (.slice Am (rofA s l t k).length cm) (.slice Ae (rofD s l t k).length ce) 27
  have hb3' := from_ hb3 hal3
  replace a0 := keepC hb3' a0
  replace a1 := keepC hb3' a1
  replace x0 := keepC hb3' x0
  replace x1 := keepC hb3' x1
  replace x2 := keepC hb3' x2
  have H3 := Lib.hid (from_ H2.out hb3')
  have hsame := same6_yes (s := rofS s l t k) (un2.below hb3') (ud2.below hb3') (um.below hal3) (ue.below hal3)
  have Hsame := Lib.hid hsame
  have H23 := Lib.hid hb3'
  clear b0 b1 hb3 hal3 hb3' un2 ud2 um ue hsame
  go_wp2_with fail
  refine Hsame.out.mono ?_
  rintro e w4 ⟨rfl, hb4⟩
  replace a0 := keepC hb4 a0
  replace a1 := keepC hb4 a1
  replace x1 := keepC hb4 x1
  have H4 := Lib.hid (from_ H3.out hb4)
  have H24 := Lib.hid (from_ H23.out hb4)
  clear hb4 Hsame y0 y1 y2 x0 x2
  obtain ⟨N, hN⟩ : ∃ N, N = (rofA s l t k).length := ⟨_, rfl⟩
  have hst : Hid (0 < N → ∃ b o, An = some ⟨b, o, none⟩ ∧ w1.heap.size ≤ b ∧ b < w2.heap.size ∧ (∀ j, w4.frozen? ⟨b, o + j, none⟩ = false) ∧ ∀ j, 0 ≤ j → j < N → ∃ x : Nat, w4.cell? ⟨b, o + j, none⟩ = some (.int .u64 (x : Int))) := fun h0 => by
    have un4 := Hun.out.below ((Below.refl _ w2).alloc (Nat.le_refl _) (.cells #[.bool (rofS s l t k), .slice An (rofA s l t k).length cn, .slice Ad (rofD s l t k).length cd] 27))
    have un5 := un4.below H24.out
    obtain ⟨b, o, e, _, hlt, _, _⟩ := Hun.out.open (by omega)
    obtain ⟨b', o', e', hbb, _, hf, hc⟩ := un5.open (by omega)
    rw [e] at e'
    cases e'
    exact ⟨b, o, e, hbb, hlt, hf trivial, fun j _ hj => ⟨_, hc j (by omega)⟩⟩
  have hcm := Hun.out.cap
  have hmm := Hun.out.max
  rw [← hN] at x1 hcm
  rw [← hN]
  clear hN
  have hD := H4.out
  go_wp2
  go_loopw [11] (fun q wr => ∃ j : Nat, j ≤ N ∧ q = .int .i64 (j : Int) ∧ Below w1.heap.size w1 wr ∧ wr.cell? ⟨w2.heap.size, 1, none⟩ = some (.slice An N cn) ∧ Hid (0 < N → ∃ b o, An = some ⟨b, o, none⟩ ∧ w1.heap.size ≤ b ∧ b < w2.heap.size ∧ (∀ j, wr.frozen? ⟨b, o + j, none⟩ = false) ∧ ∀ q, j ≤ q → q < N → ∃ x : Nat, wr.cell? ⟨b, o + q, none⟩ = some (.int .u64 (x : Int)))) (fun q _ => N - (intOf q).toNat)
  case atStart => exact ⟨0, Nat.zero_le _, rfl, hD, x1, hst⟩
  case round =>
    clear x1 hst hD a0 a1
    obtain ⟨j, hj, rfl, hD, x1, hst⟩ := hrel
    by_cases hlt : j < N
    · obtain ⟨b, o, e, hbb, hb2, hf, hc⟩ := hst.out (by omega)
      obtain ⟨x, hx⟩ := hc j (Nat.le_refl _) hlt
      have hfr := hf j
      have Hf := Lib.hid hf
      have Hc := Lib.hid hc
      have hx1 := (World.cell?_setCell_other wr ⟨b, o + j, none⟩ ⟨w2.heap.size, 1, none⟩ (.int .u64 (IntKind.u64.wrap ((x : Int) + 1))) (fun e => by injection e with e1 e2; omega)).trans x1
      subst e
      have n1 : ¬ (b = w2.heap.size) := by omega
      have n2 : ¬ (w2.heap.size = b) := by omega
      clear hf hc hst
      go_wp2
      go_roundw
      case rel =>
        refine ⟨j + 1, by omega, by go_num, hD.setCell (p := ⟨b, o + j, none⟩) hbb _, ?_, fun _ => ⟨b, o, rfl, hbb, hb2, fun q => ?_, fun q hq1 hq2 => ?_⟩⟩
        · exact (World.cell?_setCell_other _ _ _ _ (by first | (simp; done) | (simp; omega))).trans x1
        · exact (World.frozen?_setCell _ _ _ _).trans (Hf.out q)
        · obtain ⟨y, hy⟩ := Hc.out q (by omega) hq2
          exact ⟨y, (World.cell?_setCell_other _ _ _ _ (by first | (simp; done) | (simp; omega))).trans hy⟩
      case measure => simp [intOf]; omega
    · obtain rfl : j = N := by omega
      have a0 := keepC hD Ha0.out
      have a1 := keepC hD Ha1.out
      have hsf := same5_any (a := .agg #[.bool s, .slice Ao l.length co]) (b := .agg #[.bool s, .slice A l.length ca]) (s := s) (t := s) (l := l) (k := l) ⟨_, rfl, Ao, co, rfl, HO.out.below hD⟩ ⟨_, rfl, A, ca, rfl, HA.out.below hD⟩
      rw [decide_eq_true (show s = s ∧ l = l from ⟨rfl, rfl⟩)] at hsf
      have Hsf := Lib.hid hsf
      have HD := Lib.hid (from_ H1.out hD)
      clear hsf hst hD
      go_wp2_with fail
      refine Hsf.out.mono ?_
      rintro e w5 ⟨rfl, hb5⟩
      go_wp2
      go_ret
      exact ⟨by first | rfl | trivial, from_ HD.out hb5⟩

end Go.Proofs.Ytjnjlgknmocdlaa
