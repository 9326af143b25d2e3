/-
  Common divisors: gcd.Gcd and gcd.Lcm at any words. No conditions but bounds on lengths.
-/
import Derived.Test.YtajmijnoikkffaaGreatNWhK
import Derived.Test.YtajmijnoikkffaaGreatNRefP
import Derived.Test.YtajmijnoikkffaaGreatNClone
namespace Go.Proofs.YtajmijnoikkffaaGreat
open Go.RowKit
set_option linter.unusedVariables false
set_option linter.unusedSimpArgs false

theorem IsU.uniq {w : World} {Z Y : Zone} {v : Value} {l k : List Nat} (h : IsU w Z v l) (h' : IsU w Y v k) : l = k := by
  obtain ⟨A, c, rfl, h⟩ := h
  obtain ⟨A', c', e, h'⟩ := h'
  injection e with e1 e2 e3
  subst e1 e3
  refine List.ext_getElem e2 fun j h1 h2 => ?_
  obtain ⟨b, o, e, _, _, _, hc⟩ := h.open (by omega)
  obtain ⟨b', o', e', _, _, _, hc'⟩ := h'.open (by omega)
  rw [e] at e'
  injection e' with e'
  injection e' with e1 e2
  subst e1 e2
  have h3 := (hc j h1).symm.trans (hc' j h2)
  injection h3 with h3
  injection h3 with _ h3
  exact Int.ofNat.inj h3
theorem IsN.uniq {w : World} {Z Y : Zone} {v : Value} {m n : Nat} (h : IsN w Z v m) (h' : IsN w Y v n) : m = n := by
  have := IsU.uniq h h'
  rw [← val_limbs m, this, val_limbs]

/-- The number that a value is (0: it is none). -/
noncomputable def numAt (w : World) (v : Value) : Nat := by
  classical
  exact if h : ∃ n, IsN w old v n then Classical.choose h else 0
theorem numAt_eq {w : World} {Z : Zone} {v : Value} {n : Nat} (h : IsN w Z v n) : numAt w v = n := by
  have h1 : ∃ n, IsN w old v n := ⟨n, h.old⟩
  unfold numAt
  rw [dif_pos h1]
  exact (Classical.choose_spec h1).uniq h

set_option maxHeartbeats 400000 in
theorem gchecked_good {w : World} {g : Nat} {ls : List (List Nat)} {c : Nat} (h : Given w g ls) (hn : ls.length ≤ 1000) (hg : ∀ l ∈ ls, good l = true) :
    Calls Tryz.prog 70 #[.slice (some ⟨g, 0, none⟩) ls.length c] w fun e w' => e = .returned (.int .i64 0) ∧ w = w' := by
  go_enter Tryz.func70, Tryz.ntmps70
  go_wp2
  go_loop [8] (fun i => ∃ k : Nat, k ≤ ls.length ∧ i = .int .i64 k) (fun i => ls.length - (intOf i).toNat)
  case atStart => exact ⟨0, Nat.zero_le _, rfl⟩
  case round =>
    obtain ⟨k, hk, rfl⟩ := hrel
    by_cases hlt : k < ls.length
    · obtain ⟨A, c', hc, hu⟩ := h k hlt
      have hgk := hg ls[k] (List.getElem_mem hlt)
      go_wp2_with (go_at_call 62; refine (check_good hu hgk).mono ?_; rintro e w' ⟨rfl, rfl⟩)
      go_round
      case rel => exact ⟨k + 1, by omega, by go_num⟩
      case measure => simp [intOf]; omega
    · go_wp2
      go_ret
      exact ⟨rfl, rfl⟩


set_option maxHeartbeats 400000 in
theorem gchecked_bad {w : World} {g : Nat} {ls : List (List Nat)} {c : Nat} (h : Given w g ls) (hn : ls.length ≤ 1000) (hg : ∃ l ∈ ls, good l = false) :
    Calls Tryz.prog 70 #[.slice (some ⟨g, 0, none⟩) ls.length c] w fun e w' => e = .returned (.int .i64 8) ∧ w = w' := by
  go_enter Tryz.func70, Tryz.ntmps70
  go_wp2
  go_loop [8] (fun i => ∃ k : Nat, k ≤ ls.length ∧ i = .int .i64 k ∧ ∀ j (hj : j < ls.length), j < k → good ls[j] = true) (fun i => ls.length - (intOf i).toNat)
  case atStart => exact ⟨0, Nat.zero_le _, rfl, fun j _ hj => absurd hj (by omega)⟩
  case round =>
    obtain ⟨k, hk, rfl, hall⟩ := hrel
    have Hall := Lib.hid hall
    clear hall
    by_cases hlt : k < ls.length
    · obtain ⟨A, c', hc, hu⟩ := h k hlt
      cases hgk : good ls[k] with
      | true =>
        have Hgk := Lib.hid hgk
        clear hgk
        go_wp2_with (go_at_call 62; refine (check_good hu Hgk.out).mono ?_; rintro e w' ⟨rfl, rfl⟩)
        go_round
        case rel =>
          refine ⟨k + 1, by omega, by go_num, fun j hj hjk => ?_⟩
          rcases Nat.lt_or_ge j k with h1 | h1
          · exact Hall.out j hj h1
          · obtain rfl : j = k := by omega
            exact Hgk.out
        case measure => simp [intOf]; omega
      | false =>
        have Hgk := Lib.hid hgk
        clear hgk
        go_wp2_with (go_at_call 62; refine (check_bad hu Hgk.out).mono ?_; rintro e w' ⟨rfl, rfl⟩)
        go_ret
        exact ⟨rfl, rfl⟩
    · obtain ⟨l, hl, hbad⟩ := hg
      obtain ⟨j, hj, rfl⟩ := List.getElem_of_mem hl
      rw [Hall.out j hj (by omega)] at hbad
      cases hbad


def gcdL (la lb : List Nat) : List Nat := if good la = true ∧ good lb = true then limbs (Nat.gcd (val la) (val lb)) else []
def lcmL (la lb : List Nat) : List Nat := if good la = true ∧ good lb = true then limbs (Nat.lcm (val la) (val lb)) else []

set_option maxRecDepth 100000 in
set_option maxHeartbeats 1000000 in
theorem gcd_good {w : World} {Z Y : Zone} {a b : Value} {m n : Nat} (ha : IsN w Z a m) (hb : IsN w Y b n) (hl : (limbs m).length ≤ 20000000000) (hl2 : (limbs n).length ≤ 20000000000) :
    Calls Tryz.prog 63 #[a, b] w fun e w' => ∃ v, e = .returned (.tuple #[v, .int .i64 0]) ∧ IsN w' (new w.heap.size) v (Nat.gcd m n) ∧ Below w.heap.size w w' := by
  obtain ⟨A, ca, rfl, ha⟩ := ha
  obtain ⟨B, cb, rfl, hb⟩ := hb
  obtain ⟨i0, hi, hz0, hz1, hz2⟩ := info_parts Tryz.info62
  have hg := given_two ha hb
  have hal : Below w.heap.size w (w.alloc (.cells #[.slice A (limbs m).length ca, .slice B (limbs n).length cb] 40)) := (Below.refl _ w).alloc (Nat.le_refl _) _
  have hck := gchecked_good (c := 2) hg (by simp) (by simp [good_limbs])
  have ia : IsN _ old (.slice A (limbs m).length ca) m := ⟨A, ca, rfl, (ha.mono (le_old _)).below hal⟩
  have ib : IsN _ old (.slice B (limbs n).length cb) n := ⟨B, cb, rfl, (hb.mono (le_old _)).below hal⟩
  have Hck := Lib.hid hck
  have Hal := Lib.hid hal
  have Ia := Lib.hid ia
  have Ib := Lib.hid ib
  clear hck hal ia ib hg ha hb
  obtain ⟨L, hL⟩ : ∃ L, L = (limbs m).length := ⟨_, rfl⟩
  obtain ⟨K, hK⟩ : ∃ K, K = (limbs n).length := ⟨_, rfl⟩
  have HL := Lib.hid (And.intro (hL ▸ hl : L ≤ 20000000000) (hK ▸ hl2 : K ≤ 20000000000))
  have hLl : (limbs m).length ≤ 20000000000 := hl
  have hKl : (limbs n).length ≤ 20000000000 := hl2
  have Hln := Lib.hid (And.intro hLl hKl)
  rw [← hL, ← hK] at Hal Ia Ib ⊢
  simp only [List.length_cons, List.length_nil, ← hL, ← hK] at Hck
  clear hL hK hl hl2 hLl hKl
  go_enter Tryz.func63, Tryz.ntmps63
  go_wp2_with fail
  refine Hck.out.mono ?_
  rintro e w1 ⟨rfl, rfl⟩
  go_wp2
  go_loopw [0, 1] (fun u v wr => ∃ (p q : Nat), IsN wr old u p ∧ IsN wr old v q ∧ Hid (Nat.gcd p q = Nat.gcd m n) ∧ Hid ((limbs p).length ≤ 20000000000 ∧ (limbs q).length ≤ 20000000000) ∧ Below w.heap.size w wr) (fun _ v wr => numAt wr v)
  case atStart => exact ⟨m, n, Ia.out, Ib.out, rfl, Hln.out, Hal.out⟩
  case round =>
    obtain ⟨p, q, hp, hq, hgc, hlen, hbel⟩ := hrel
    by_cases h0 : q = 0
    · subst h0
      have e0 : limbs 0 = [] := limbs_eq_nil.2 rfl
      obtain ⟨A2, c2, rfl, hq2⟩ := hq
      obtain ⟨A1, c1, rfl, hp1⟩ := hp
      rw [e0] at hq2 ⊢
      have hG : Nat.gcd m n = p := by rw [← hgc.out, Nat.gcd_zero_right]
      obtain ⟨Lp, hLp⟩ : ∃ Lp, Lp = (limbs p).length := ⟨_, rfl⟩
      have hl1 : Lp ≤ 20000000000 := hLp ▸ hlen.out.1
      have HLp := Lib.hid hLp
      have HG := Lib.hid hG
      rw [← hLp]
      clear hq2 hgc hlen hG hLp
      go_wp2_with (at_builtin; go_loud (refine wpList_app _ rfl _ _ 40 rfl w.heap.size 62 i0 Tryz.underlying40 hi hz0 hz1 hz2 _ _ _ rfl (World.ownsRow_nil _ _ _ _) HLp.out rfl hp1 (by omega) (by have := hbel.size; omega) ?_); intro v' w2 hown' hgrow; obtain ⟨A3, c3, rfl⟩ := own_shape hown')
      have hB2 : Below w.heap.size w w2 := hbel.grown hgrow (by have := hbel.size; omega) (fun k h => by cases h)
      have hfin : IsN w2 (new w.heap.size) (.slice A3 Lp c3) p := by
        rw [Nat.zero_add, List.nil_append] at hown'
        have h1 := isU_after hp1.small HLp.out hown' (Nat.le_refl _)
        exact ⟨A3, c3, by rw [← HLp.out], h1⟩
      have Hfin := Lib.hid hfin
      clear hfin hown' hp1
      go_ret2
      exact ⟨.slice A3 Lp c3, rfl, by rw [HG.out]; exact Hfin.out, hB2⟩
    · have hdv := ddiv_good hp hq (by omega) hlen.out.1
      have hmod : p % q < q := Nat.mod_lt _ (by omega)
      have hnq := numAt_eq hq
      have hst : Nat.gcd q (p % q) = Nat.gcd m n := by rw [← hgc.out, Nat.gcd_comm p q, Nat.gcd_rec q p, Nat.gcd_comm]
      have hl2 : (limbs (p % q)).length ≤ 20000000000 := Nat.le_trans (len_mono (Nat.le_of_lt hmod)) hlen.out.2
      have Hst := Lib.hid hst
      have Hl2 := Lib.hid (And.intro hlen.out.2 hl2)
      have Hmod := Lib.hid hmod
      have Hdv := Lib.hid hdv
      have Hnq := Lib.hid hnq
      have hpos : 0 < (limbs q).length := len_pos.2 h0
      obtain ⟨A2, c2, rfl, hq2⟩ := hq
      obtain ⟨A1, c1, rfl, hp1⟩ := hp
      have iq : IsN wr old (.slice A2 (limbs q).length c2) q := ⟨A2, c2, rfl, hq2⟩
      have Iq := Lib.hid iq
      obtain ⟨Lq, hLq⟩ : ∃ Lq, Lq = (limbs q).length := ⟨_, rfl⟩
      obtain ⟨Lp, hLp⟩ : ∃ Lp, Lp = (limbs p).length := ⟨_, rfl⟩
      rw [← hLq, ← hLp] at Hdv
      rw [← hLq] at hpos Iq Hnq ⊢
      rw [← hLp]
      have hd : decide ((0 : Int) < (Lq : Int)) = true := decide_eq_true (by omega)
      clear hLp hLq hst hl2 hmod hdv hnq hq2 hp1 hgc hlen iq
      go_wp2_with fail
      refine Hdv.out.mono ?_
      rintro e w2 ⟨q2, r2, rfl, _, hr2, hb2⟩
      have Hr := Lib.hid (hr2.old)
      have Iq2 := Lib.hid (Iq.out.below hb2)
      have hB2 := from_ hbel hb2
      have hm2 : numAt w2 r2 < numAt wr (.slice A2 Lq c2) := by rw [numAt_eq hr2, Hnq.out]; exact Hmod.out
      clear hr2
      go_wp2
      go_roundw
      case rel => exact ⟨q, p % q, Iq2.out, Hr.out, Hst, Hl2, hB2⟩
      case measure => exact hm2

set_option maxRecDepth 100000 in
set_option maxHeartbeats 1000000 in
theorem gcd_bad {w : World} {Z Y : Zone} {a b : Value} {la lb : List Nat} (ha : IsU w Z a la) (hb : IsU w Y b lb) (hg : ¬ (good la = true ∧ good lb = true)) :
    Calls Tryz.prog 63 #[a, b] w fun e w' => e = .returned (.tuple #[.slice none 0 0, .int .i64 8]) ∧ Below w.heap.size w w' := by
  obtain ⟨A, ca, rfl, ha⟩ := ha
  obtain ⟨B, cb, rfl, hb⟩ := hb
  have hgv := given_two ha hb
  have hal : Below w.heap.size w (w.alloc (.cells #[.slice A la.length ca, .slice B lb.length cb] 40)) := (Below.refl _ w).alloc (Nat.le_refl _) _
  have hck := gchecked_bad (c := 2) hgv (by simp) (by
    cases h1 : good la
    · exact ⟨la, by simp, h1⟩
    · cases h2 : good lb
      · exact ⟨lb, by simp, h2⟩
      · exact absurd ⟨h1, h2⟩ hg)
  have hla := ha.len
  have hlb := hb.len
  have Hck := Lib.hid hck
  have Hal := Lib.hid hal
  clear hck hal hgv ha hb hg
  generalize la.length = L at *
  generalize lb.length = K at *
  go_enter Tryz.func63, Tryz.ntmps63
  go_wp2_with fail
  refine Hck.out.mono ?_
  rintro e w1 ⟨rfl, rfl⟩
  go_wp2
  go_ret2
  exact ⟨rfl, Hal.out⟩

theorem gcd_all {w : World} {Z Y : Zone} {a b : Value} {la lb : List Nat} (ha : IsU w Z a la) (hb : IsU w Y b lb) (hl : la.length ≤ 20000000000) (hl2 : lb.length ≤ 20000000000) :
    Calls Tryz.prog 63 #[a, b] w fun e w' => ∃ v, e = .returned (.tuple #[v, .int .i64 (err2 la lb)]) ∧ IsU w' (new w.heap.size) v (gcdL la lb) ∧ Below w.heap.size w w' := by
  by_cases hg : good la = true ∧ good lb = true
  · have q1 : (limbs (val la)).length ≤ 20000000000 := by rw [limbs_val la ha.small hg.1]; exact hl
    have q2 : (limbs (val lb)).length ≤ 20000000000 := by rw [limbs_val lb hb.small hg.2]; exact hl2
    refine (gcd_good (ha.num hg.1) (hb.num hg.2) q1 q2).mono ?_
    rintro e w' ⟨v, rfl, hv, hb⟩
    exact ⟨v, by simp only [err2, hg, and_self, if_true], by unfold IsN at hv; unfold gcdL; rw [if_pos hg]; exact hv, hb⟩
  · refine (gcd_bad ha hb hg).mono ?_
    rintro e w' ⟨rfl, hb⟩
    exact ⟨.slice none 0 0, by simp only [err2, hg, if_false], by unfold gcdL; rw [if_neg hg]; exact IsU.nil _ _, hb⟩

end Go.Proofs.YtajmijnoikkffaaGreat
