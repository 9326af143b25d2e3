/-
  Common divisors: gcd.Gcd and gcd.Lcm at any words. No conditions but bounds on lengths.
  Fractions: their results in cells; rat.checked of whole numbers. No conditions but bounds on lengths.
  Fractions: rat.Of at any words. No conditions but bounds on lengths.
-/
import Derived.Test.YtceenaegchlbcaaGreatDoorEWhK
import Derived.Test.YtceenaegchlbcaaGreatDoorERefP
import Derived.Test.YtceenaegchlbcaaGreatDoorEClone
import Derived.Test.YtceenaegchlbcaaGreatDoorEWhF
namespace Go.Proofs.YtceenaegchlbcaaGreatDoor
open Go.RowKit
set_option linter.unusedVariables false
set_option linter.unusedSimpArgs false

theorem IsU.uniq {w : World} {Z Y : Zone} {v : Value} {l k : List Nat} (h : IsU w Z v l) (h' : IsU w Y v k) : l = k := by
  obtain ⟨A, c, rfl, h⟩ := h
  obtain ⟨A', c', e, h'⟩ := h'
  injection e with e1 e2 e3
  subst e1 e3
  refine List.ext_getElem e2 fun j h1 h2 => ?_
  obtain ⟨b, o, e, _, _, _, hc⟩ := h.open (by omega)
  obtain ⟨b', o', e', _, _, _, hc'⟩ := h'.open (by omega)
  rw [e] at e'
  injection e' with e'
  injection e' with e1 e2
  subst e1 e2
  have h3 := (hc j h1).symm.trans (hc' j h2)
  injection h3 with h3
  injection h3 with _ h3
  exact Int.ofNat.inj h3
theorem IsN.uniq {w : World} {Z Y : Zone} {v : Value} {m n : Nat} (h : IsN w Z v m) (h' : IsN w Y v n) : m = n := by
  have := IsU.uniq h h'
  rw [← val_limbs m, this, val_limbs]

/-- The number that a value is (0: it is none). -/
noncomputable def numAt (w : World) (v : Value) : Nat := by
  classical
  exact if h : ∃ n, IsN w old v n then Classical.choose h else 0
theorem numAt_eq {w : World} {Z : Zone} {v : Value} {n : Nat} (h : IsN w Z v n) : numAt w v = n := by
  have h1 : ∃ n, IsN w old v n := ⟨n, h.old⟩
  unfold numAt
  rw [dif_pos h1]
  exact (Classical.choose_spec h1).uniq h

set_option maxHeartbeats 400000 in
theorem gchecked_good {w : World} {g : Nat} {ls : List (List Nat)} {c : Nat} (h : Given w g ls) (hn : ls.length ≤ 1000) (hg : ∀ l ∈ ls, good l = true) :
    Calls Tryz.prog 43 #[.slice (some ⟨g, 0, none⟩) ls.length c] w fun e w' => e = .returned (.int .i64 0) ∧ w = w' := by
  go_enter Tryz.func43, Tryz.ntmps43
  go_wp2
  go_loop [8] (fun i => ∃ k : Nat, k ≤ ls.length ∧ i = .int .i64 k) (fun i => ls.length - (intOf i).toNat)
  case atStart => exact ⟨0, Nat.zero_le _, rfl⟩
  case round =>
    obtain ⟨k, hk, rfl⟩ := hrel
    by_cases hlt : k < ls.length
    · obtain ⟨A, c', hc, hu⟩ := h k hlt
      have hgk := hg ls[k] (List.getElem_mem hlt)
      go_wp2_with (go_at_call 97; refine (check_good hu hgk).mono ?_; rintro e w' ⟨rfl, rfl⟩)
      go_round
      case rel => exact ⟨k + 1, by omega, by go_num⟩
      case measure => simp [intOf]; omega
    · go_wp2
      go_ret
      exact ⟨rfl, rfl⟩


set_option maxHeartbeats 400000 in
theorem gchecked_bad {w : World} {g : Nat} {ls : List (List Nat)} {c : Nat} (h : Given w g ls) (hn : ls.length ≤ 1000) (hg : ∃ l ∈ ls, good l = false) :
    Calls Tryz.prog 43 #[.slice (some ⟨g, 0, none⟩) ls.length c] w fun e w' => e = .returned (.int .i64 8) ∧ w = w' := by
  go_enter Tryz.func43, Tryz.ntmps43
  go_wp2
  go_loop [8] (fun i => ∃ k : Nat, k ≤ ls.length ∧ i = .int .i64 k ∧ ∀ j (hj : j < ls.length), j < k → good ls[j] = true) (fun i => ls.length - (intOf i).toNat)
  case atStart => exact ⟨0, Nat.zero_le _, rfl, fun j _ hj => absurd hj (by omega)⟩
  case round =>
    obtain ⟨k, hk, rfl, hall⟩ := hrel
    have Hall := Lib.hid hall
    clear hall
    by_cases hlt : k < ls.length
    · obtain ⟨A, c', hc, hu⟩ := h k hlt
      cases hgk : good ls[k] with
      | true =>
        have Hgk := Lib.hid hgk
        clear hgk
        go_wp2_with (go_at_call 97; refine (check_good hu Hgk.out).mono ?_; rintro e w' ⟨rfl, rfl⟩)
        go_round
        case rel =>
          refine ⟨k + 1, by omega, by go_num, fun j hj hjk => ?_⟩
          rcases Nat.lt_or_ge j k with h1 | h1
          · exact Hall.out j hj h1
          · obtain rfl : j = k := by omega
            exact Hgk.out
        case measure => simp [intOf]; omega
      | false =>
        have Hgk := Lib.hid hgk
        clear hgk
        go_wp2_with (go_at_call 97; refine (check_bad hu Hgk.out).mono ?_; rintro e w' ⟨rfl, rfl⟩)
        go_ret
        exact ⟨rfl, rfl⟩
    · obtain ⟨l, hl, hbad⟩ := hg
      obtain ⟨j, hj, rfl⟩ := List.getElem_of_mem hl
      rw [Hall.out j hj (by omega)] at hbad
      cases hbad


def gcdL (la lb : List Nat) : List Nat := if good la = true ∧ good lb = true then limbs (Nat.gcd (val la) (val lb)) else []
def lcmL (la lb : List Nat) : List Nat := if good la = true ∧ good lb = true then limbs (Nat.lcm (val la) (val lb)) else []

set_option maxRecDepth 100000 in
set_option maxHeartbeats 1000000 in
theorem gcd_good {w : World} {Z Y : Zone} {a b : Value} {m n : Nat} (ha : IsN w Z a m) (hb : IsN w Y b n) (hl : (limbs m).length ≤ 20000) (hl2 : (limbs n).length ≤ 20000) :
    Calls Tryz.prog 98 #[a, b] w fun e w' => ∃ v, e = .returned (.tuple #[v, .int .i64 0]) ∧ IsN w' (new w.heap.size) v (Nat.gcd m n) ∧ Below w.heap.size w w' := by
  obtain ⟨A, ca, rfl, ha⟩ := ha
  obtain ⟨B, cb, rfl, hb⟩ := hb
  obtain ⟨i0, hi, hz0, hz1, hz2⟩ := info_parts Tryz.info68
  have hg := given_two ha hb
  have hal : Below w.heap.size w (w.alloc (.cells #[.slice A (limbs m).length ca, .slice B (limbs n).length cb] 23)) := (Below.refl _ w).alloc (Nat.le_refl _) _
  have hck := gchecked_good (c := 2) hg (by simp) (by simp [good_limbs])
  have ia : IsN _ old (.slice A (limbs m).length ca) m := ⟨A, ca, rfl, (ha.mono (le_old _)).below hal⟩
  have ib : IsN _ old (.slice B (limbs n).length cb) n := ⟨B, cb, rfl, (hb.mono (le_old _)).below hal⟩
  have Hck := Lib.hid hck
  have Hal := Lib.hid hal
  have Ia := Lib.hid ia
  have Ib := Lib.hid ib
  clear hck hal ia ib hg ha hb
  obtain ⟨L, hL⟩ : ∃ L, L = (limbs m).length := ⟨_, rfl⟩
  obtain ⟨K, hK⟩ : ∃ K, K = (limbs n).length := ⟨_, rfl⟩
  have HL := Lib.hid (And.intro (hL ▸ hl : L ≤ 20000) (hK ▸ hl2 : K ≤ 20000))
  have hLl : (limbs m).length ≤ 20000 := hl
  have hKl : (limbs n).length ≤ 20000 := hl2
  have Hln := Lib.hid (And.intro hLl hKl)
  rw [← hL, ← hK] at Hal Ia Ib ⊢
  simp only [List.length_cons, List.length_nil, ← hL, ← hK] at Hck
  clear hL hK hl hl2 hLl hKl
  go_enter Tryz.func98, Tryz.ntmps98
  go_wp2_with fail
  refine Hck.out.mono ?_
  rintro e w1 ⟨rfl, rfl⟩
  go_wp2
  go_loopw [0, 1] (fun u v wr => ∃ (p q : Nat), IsN wr old u p ∧ IsN wr old v q ∧ Hid (Nat.gcd p q = Nat.gcd m n) ∧ Hid ((limbs p).length ≤ 20000 ∧ (limbs q).length ≤ 20000) ∧ Below w.heap.size w wr) (fun _ v wr => numAt wr v)
  case atStart => exact ⟨m, n, Ia.out, Ib.out, rfl, Hln.out, Hal.out⟩
  case round =>
    obtain ⟨p, q, hp, hq, hgc, hlen, hbel⟩ := hrel
    by_cases h0 : q = 0
    · subst h0
      have e0 : limbs 0 = [] := limbs_eq_nil.2 rfl
      obtain ⟨A2, c2, rfl, hq2⟩ := hq
      obtain ⟨A1, c1, rfl, hp1⟩ := hp
      rw [e0] at hq2 ⊢
      have hG : Nat.gcd m n = p := by rw [← hgc.out, Nat.gcd_zero_right]
      obtain ⟨Lp, hLp⟩ : ∃ Lp, Lp = (limbs p).length := ⟨_, rfl⟩
      have hl1 : Lp ≤ 20000 := hLp ▸ hlen.out.1
      have HLp := Lib.hid hLp
      have HG := Lib.hid hG
      rw [← hLp]
      clear hq2 hgc hlen hG hLp
      go_wp2_with (at_builtin; go_loud (refine wpList_app _ rfl _ _ 23 rfl w.heap.size 68 i0 Tryz.underlying23 hi hz0 hz1 hz2 _ _ _ rfl (World.ownsRow_nil _ _ _ _) HLp.out rfl hp1 (by omega) (by have := hbel.size; omega) ?_); intro v' w2 hown' hgrow; obtain ⟨A3, c3, rfl⟩ := own_shape hown')
      have hB2 : Below w.heap.size w w2 := hbel.grown hgrow (by have := hbel.size; omega) (fun k h => by cases h)
      have hfin : IsN w2 (new w.heap.size) (.slice A3 Lp c3) p := by
        rw [Nat.zero_add, List.nil_append] at hown'
        have h1 := isU_after hp1.small HLp.out hown' (Nat.le_refl _)
        exact ⟨A3, c3, by rw [← HLp.out], h1⟩
      have Hfin := Lib.hid hfin
      clear hfin hown' hp1
      go_ret2
      exact ⟨.slice A3 Lp c3, rfl, by rw [HG.out]; exact Hfin.out, hB2⟩
    · have hdv := ddiv_good hp hq (by omega) hlen.out.1
      have hmod : p % q < q := Nat.mod_lt _ (by omega)
      have hnq := numAt_eq hq
      have hst : Nat.gcd q (p % q) = Nat.gcd m n := by rw [← hgc.out, Nat.gcd_comm p q, Nat.gcd_rec q p, Nat.gcd_comm]
      have hl2 : (limbs (p % q)).length ≤ 20000 := Nat.le_trans (len_mono (Nat.le_of_lt hmod)) hlen.out.2
      have Hst := Lib.hid hst
      have Hl2 := Lib.hid (And.intro hlen.out.2 hl2)
      have Hmod := Lib.hid hmod
      have Hdv := Lib.hid hdv
      have Hnq := Lib.hid hnq
      have hpos : 0 < (limbs q).length := len_pos.2 h0
      obtain ⟨A2, c2, rfl, hq2⟩ := hq
      obtain ⟨A1, c1, rfl, hp1⟩ := hp
      have iq : IsN wr old (.slice A2 (limbs q).length c2) q := ⟨A2, c2, rfl, hq2⟩
      have Iq := Lib.hid iq
      obtain ⟨Lq, hLq⟩ : ∃ Lq, Lq = (limbs q).length := ⟨_, rfl⟩
      obtain ⟨Lp, hLp⟩ : ∃ Lp, Lp = (limbs p).length := ⟨_, rfl⟩
      rw [← hLq, ← hLp] at Hdv
      rw [← hLq] at hpos Iq Hnq ⊢
      rw [← hLp]
      have hd : decide ((0 : Int) < (Lq : Int)) = true := decide_eq_true (by omega)
      clear hLp hLq hst hl2 hmod hdv hnq hq2 hp1 hgc hlen iq
      go_wp2_with fail
      refine Hdv.out.mono ?_
      rintro e w2 ⟨q2, r2, rfl, _, hr2, hb2⟩
      have Hr := Lib.hid (hr2.old)
      have Iq2 := Lib.hid (Iq.out.below hb2)
      have hB2 := from_ hbel hb2
      have hm2 : numAt w2 r2 < numAt wr (.slice A2 Lq c2) := by rw [numAt_eq hr2, Hnq.out]; exact Hmod.out
      clear hr2
      go_wp2
      go_roundw
      case rel => exact ⟨q, p % q, Iq2.out, Hr.out, Hst, Hl2, hB2⟩
      case measure => exact hm2

set_option maxRecDepth 100000 in
set_option maxHeartbeats 1000000 in
theorem gcd_bad {w : World} {Z Y : Zone} {a b : Value} {la lb : List Nat} (ha : IsU w Z a la) (hb : IsU w Y b lb) (hg : ¬ (good la = true ∧ good lb = true)) :
    Calls Tryz.prog 98 #[a, b] w fun e w' => e = .returned (.tuple #[.slice none 0 0, .int .i64 8]) ∧ Below w.heap.size w w' := by
  obtain ⟨A, ca, rfl, ha⟩ := ha
  obtain ⟨B, cb, rfl, hb⟩ := hb
  have hgv := given_two ha hb
  have hal : Below w.heap.size w (w.alloc (.cells #[.slice A la.length ca, .slice B lb.length cb] 23)) := (Below.refl _ w).alloc (Nat.le_refl _) _
  have hck := gchecked_bad (c := 2) hgv (by simp) (by
    cases h1 : good la
    · exact ⟨la, by simp, h1⟩
    · cases h2 : good lb
      · exact ⟨lb, by simp, h2⟩
      · exact absurd ⟨h1, h2⟩ hg)
  have hla := ha.len
  have hlb := hb.len
  have Hck := Lib.hid hck
  have Hal := Lib.hid hal
  clear hck hal hgv ha hb hg
  generalize la.length = L at *
  generalize lb.length = K at *
  go_enter Tryz.func98, Tryz.ntmps98
  go_wp2_with fail
  refine Hck.out.mono ?_
  rintro e w1 ⟨rfl, rfl⟩
  go_wp2
  go_ret2
  exact ⟨rfl, Hal.out⟩

theorem gcd_all {w : World} {Z Y : Zone} {a b : Value} {la lb : List Nat} (ha : IsU w Z a la) (hb : IsU w Y b lb) (hl : la.length ≤ 20000) (hl2 : lb.length ≤ 20000) :
    Calls Tryz.prog 98 #[a, b] w fun e w' => ∃ v, e = .returned (.tuple #[v, .int .i64 (err2 la lb)]) ∧ IsU w' (new w.heap.size) v (gcdL la lb) ∧ Below w.heap.size w w' := by
  by_cases hg : good la = true ∧ good lb = true
  · have q1 : (limbs (val la)).length ≤ 20000 := by rw [limbs_val la ha.small hg.1]; exact hl
    have q2 : (limbs (val lb)).length ≤ 20000 := by rw [limbs_val lb hb.small hg.2]; exact hl2
    refine (gcd_good (ha.num hg.1) (hb.num hg.2) q1 q2).mono ?_
    rintro e w' ⟨v, rfl, hv, hb⟩
    exact ⟨v, by simp only [err2, hg, and_self, if_true], by unfold IsN at hv; unfold gcdL; rw [if_pos hg]; exact hv, hb⟩
  · refine (gcd_bad ha hb hg).mono ?_
    rintro e w' ⟨rfl, hb⟩
    exact ⟨.slice none 0 0, by simp only [err2, hg, if_false], by unfold gcdL; rw [if_neg hg]; exact IsU.nil _ _, hb⟩

end Go.Proofs.YtceenaegchlbcaaGreatDoor

namespace Go.Proofs.YtceenaegchlbcaaGreatDoor
open Go.RowKit
set_option linter.unusedVariables false
set_option linter.unusedSimpArgs false

theorem loadVar_rat {w : World} {g : Nat} {v0 v1 v2 : Value} (h0 : w.cell? ⟨g, 0, none⟩ = some v0) (h1 : w.cell? ⟨g, 1, none⟩ = some v1) (h2 : w.cell? ⟨g, 2, none⟩ = some v2) :
    (loadVar 48 ⟨g, 0, none⟩).run Tryz.prog w = .ok (.agg #[v0, v1, v2]) w := by
  unfold loadVar
  go_simp

theorem res_rat {fn : Func} {p : Tmp} (h : fn.results = #[.cell p 48]) (tmps : Array Value) {w : World} (g : Nat) {v0 v1 v2 : Value} (hp : tmps.getD p undef = .pointer (some ⟨g, 0, none⟩)) (h0 : w.cell? ⟨g, 0, none⟩ = some v0) (h1 : w.cell? ⟨g, 1, none⟩ = some v1) (h2 : w.cell? ⟨g, 2, none⟩ = some v2) :
    (results fn tmps).run Tryz.prog w = .ok (.agg #[v0, v1, v2]) w := by
  have hp' : tmps[p]?.getD undef = .pointer (some ⟨g, 0, none⟩) := by simpa using hp
  simp [results, h, hp', asAddr, loadVar_rat h0 h1 h2]

theorem res_rat2 {fn : Func} {p u : Tmp} (h : fn.results = #[.cell p 48, .tmp u]) (tmps : Array Value) {w : World} (g : Nat) {v0 v1 v2 : Value} (hp : tmps.getD p undef = .pointer (some ⟨g, 0, none⟩)) (h0 : w.cell? ⟨g, 0, none⟩ = some v0) (h1 : w.cell? ⟨g, 1, none⟩ = some v1) (h2 : w.cell? ⟨g, 2, none⟩ = some v2) :
    (results fn tmps).run Tryz.prog w = .ok (.tuple #[.agg #[v0, v1, v2], tmps.getD u undef]) w := by
  rw [results_cell_tmp h, hp]
  simp [asAddr, Result.andThen, loadVar_rat h0 h1 h2]

/-- Three cells of a block of one's own. -/
structure Box3 (W : World) (g : Nat) (a b c : Value) : Prop where
  c0 : W.cell? ⟨g, 0, none⟩ = some a
  c1 : W.cell? ⟨g, 1, none⟩ = some b
  c2 : W.cell? ⟨g, 2, none⟩ = some c
  f0 : W.frozen? ⟨g, 0, none⟩ = false
  f1 : W.frozen? ⟨g, 1, none⟩ = false
  f2 : W.frozen? ⟨g, 2, none⟩ = false
  lt : g < W.heap.size
theorem Box3.new (w : World) (a b c : Value) (t : TypeId) : Box3 (w.alloc (.cells #[a, b, c] t)) w.heap.size a b c := ⟨cell_newest rfl rfl, cell_newest rfl rfl, cell_newest rfl rfl, by simp, by simp, by simp, by simp⟩
theorem Box3.below {W W' : World} {g : Nat} {a b c : Value} (h : Box3 W g a b c) (hb : Below W.heap.size W W') : Box3 W' g a b c :=
  ⟨keepC hb h.c0, keepC hb h.c1, keepC hb h.c2, keepF hb h.lt h.f0, keepF hb h.lt h.f1, keepF hb h.lt h.f2, Nat.lt_of_lt_of_le h.lt hb.size⟩
theorem Box3.alloc {W : World} {g : Nat} {a b c : Value} (h : Box3 W g a b c) (o : Obj) : Box3 (W.alloc o) g a b c := h.below ((Below.refl _ W).alloc (Nat.le_refl _) _)

/-- What is put into such cells last. -/
structure Put3 (w W' : World) (g : Nat) (x y z : Value) (W : World) : Prop where
  c0 : W'.cell? ⟨g, 0, none⟩ = some x
  c1 : W'.cell? ⟨g, 1, none⟩ = some y
  c2 : W'.cell? ⟨g, 2, none⟩ = some z
  bel : Below w.heap.size w W'
  keep : ∀ {Z : Zone} {A : Option Addr} {c : Nat} {l : List Nat}, ¬ Z.blk g → U64s W Z A c l → U64s W' Z A c l

theorem Box3.put {w W : World} {g : Nat} {a b c : Value} (h : Box3 W g a b c) (hB : Below w.heap.size w W) (hg : w.heap.size ≤ g) (x y z : Value) :
    Put3 w (((W.setCell ⟨g, 0, none⟩ x).setCell ⟨g, 1, none⟩ y).setCell ⟨g, 2, none⟩ z) g x y z W := by
  have e0 : (((W.setCell ⟨g, 0, none⟩ x).setCell ⟨g, 1, none⟩ y).setCell ⟨g, 2, none⟩ z).cell? ⟨g, 0, none⟩ = some x := by
    rw [World.cell?_setCell_other _ _ _ _ (by simp), World.cell?_setCell_other _ _ _ _ (by simp)]
    exact World.cell?_setCell_same _ _ _ h.c0
  have e1 : (((W.setCell ⟨g, 0, none⟩ x).setCell ⟨g, 1, none⟩ y).setCell ⟨g, 2, none⟩ z).cell? ⟨g, 1, none⟩ = some y := by
    rw [World.cell?_setCell_other _ _ _ _ (by simp)]
    refine World.cell?_setCell_same _ _ _ (u := b) ?_
    rw [World.cell?_setCell_other _ _ _ _ (by simp)]
    exact h.c1
  have e2 : (((W.setCell ⟨g, 0, none⟩ x).setCell ⟨g, 1, none⟩ y).setCell ⟨g, 2, none⟩ z).cell? ⟨g, 2, none⟩ = some z := by
    refine World.cell?_setCell_same _ _ _ (u := c) ?_
    rw [World.cell?_setCell_other _ _ _ _ (by simp), World.cell?_setCell_other _ _ _ _ (by simp)]
    exact h.c2
  refine ⟨e0, e1, e2, ((hB.setCell (p := ⟨g, 0, none⟩) hg _).setCell (p := ⟨g, 1, none⟩) hg _).setCell (p := ⟨g, 2, none⟩) hg _, fun {Z A c l} hz hu => hu.keep fun b' hb' _ => ?_⟩
  have hne : b' ≠ g := fun e => hz (e ▸ hb')
  rw [Below.heap_setCell _ _ _ _ hne, Below.heap_setCell _ _ _ _ hne, Below.heap_setCell _ _ _ _ hne]

set_option maxHeartbeats 1000000 in
theorem ratchecked_any {w : World} {g n c : Nat} {ps : List (Bool × List Nat)} (h : GivenI w g ps) (hn : n = ps.length) (hl : ps.length ≤ 1000) :
    Calls Tryz.prog 184 #[.func (.func 70) #[] #[], .slice (some ⟨g, 0, none⟩) n c] w fun e w' => e = .returned (.int .i64 (errCs ps)) ∧ Below w.heap.size w w' := by
  subst hn
  go_enter Tryz.func184, Tryz.ntmps184
  go_wp2
  go_loopw [10] (fun i wr => ∃ k : Nat, k ≤ ps.length ∧ i = .int .i64 k ∧ Below w.heap.size w wr ∧ Hid (∀ j (hj : j < ps.length), j < k → okI ps[j].1 ps[j].2 = true)) (fun i _ => ps.length - (intOf i).toNat)
  case atStart => exact ⟨0, Nat.zero_le _, rfl, Below.refl _ _, fun j hj h => absurd h (by omega)⟩
  case round =>
    obtain ⟨k, hk, rfl, hbel, hz⟩ := hrel
    by_cases hlt : k < ps.length
    · obtain ⟨u, h0, h1, h2⟩ := (h.below hbel) k hlt
      obtain ⟨A, c', rfl, hu⟩ := h2
      have hI : IsI wr old (.agg #[.bool ps[k].1, .slice A ps[k].2.length c']) ps[k].1 ps[k].2 := ⟨_, rfl, A, c', rfl, hu⟩
      have hxI := hI.below ((Below.refl _ wr).alloc (Nat.le_refl _) (.cells #[.bool ps[k].1, .slice A ps[k].2.length c'] 36))
      have hck := wcheck_any hxI
      have hb1 : Below w.heap.size w (wr.alloc (.cells #[.bool ps[k].1, .slice A ps[k].2.length c'] 36)) := hbel.alloc hbel.size _
      have hok : okI ps[k].1 ps[k].2 = true ∨ okI ps[k].1 ps[k].2 = false := by cases okI ps[k].1 ps[k].2 <;> simp
      have Hall : Hid (okI ps[k].1 ps[k].2 = true → ∀ j (hj : j < ps.length), j < k + 1 → okI ps[j].1 ps[j].2 = true) := fun hx j hj hjk => by
        rcases Nat.lt_or_ge j k with h1 | h1
        · exact hz.out j hj h1
        · obtain rfl : j = k := by omega
          exact hx
      have Hnone : Hid (okI ps[k].1 ps[k].2 = false → errCs ps = 8) := fun hx => by
        unfold errCs
        rw [if_neg]
        intro hall
        have := List.all_eq_true.1 hall ps[k] (List.getElem_mem hlt)
        rw [this] at hx
        cases hx
      clear hI hxI hu hz
      generalize ps[k].1 = s at *
      generalize ps[k].2 = l at *
      rcases hok with hok | hok
      · have e1 : errC s l = 0 := by simp [errC, hok]
        rw [e1] at hck
        have Hck := Lib.hid hck
        have Hok := Lib.hid hok
        clear hck hok e1
        go_wp2_with fail
        refine Hck.out.mono ?_
        rintro e w1 ⟨rfl, hb2⟩
        have hb3 := from_ hb1 hb2
        go_wp2
        go_roundw
        case rel => exact ⟨k + 1, by omega, by go_num, hb3, Lib.hid (Hall.out Hok.out)⟩
        case measure => simp [intOf]; omega
      · have e1 : errC s l = 8 := by simp [errC, hok]
        rw [e1] at hck
        have Hck := Lib.hid hck
        have Hok := Lib.hid hok
        clear hck hok e1
        go_wp2_with fail
        refine Hck.out.mono ?_
        rintro e w1 ⟨rfl, hb2⟩
        have hb3 := from_ hb1 hb2
        go_wp2
        go_ret
        rw [Hnone.out Hok.out]
        exact ⟨rfl, hb3⟩
    · obtain rfl : k = ps.length := by omega
      have he : errCs ps = 0 := by
        unfold errCs
        rw [if_pos]
        rw [List.all_eq_true]
        intro p hp
        obtain ⟨j, hj, rfl⟩ := List.getElem_of_mem hp
        exact hz.out j hj hj
      have He := Lib.hid he
      clear he
      go_wp2
      go_ret
      rw [He.out]
      exact ⟨rfl, hbel⟩


end Go.Proofs.YtceenaegchlbcaaGreatDoor

namespace Go.Proofs.YtceenaegchlbcaaGreatDoor
open Go.RowKit
set_option linter.unusedVariables false
set_option linter.unusedSimpArgs false

def errQ (s : Bool) (l : List Nat) (t : Bool) (k : List Nat) : Int := if okI s l = true ∧ okI t k = true then (if k.length = 0 then 30 else 0) else 8
def ratA (l k : List Nat) : List Nat := limbs (val l / Nat.gcd (val l) (val k))
def ratD (l k : List Nat) : List Nat := limbs (val k / Nat.gcd (val l) (val k))

theorem boxes_rat (w : World) (a0 a1 b0 b1 : Value) :
    Box (((w.alloc (.cells #[a0, a1] 36)).alloc (.cells #[b0, b1] 36)).alloc (.cells #[.bool false, .slice none 0 0, .slice none 0 0] 48)) w.heap.size a0 a1 ∧
    Box (((w.alloc (.cells #[a0, a1] 36)).alloc (.cells #[b0, b1] 36)).alloc (.cells #[.bool false, .slice none 0 0, .slice none 0 0] 48)) (w.heap.size + 1) b0 b1 ∧
    Box3 (((w.alloc (.cells #[a0, a1] 36)).alloc (.cells #[b0, b1] 36)).alloc (.cells #[.bool false, .slice none 0 0, .slice none 0 0] 48)) (w.heap.size + 2) (.bool false) (.slice none 0 0) (.slice none 0 0) ∧
    Below w.heap.size w (((w.alloc (.cells #[a0, a1] 36)).alloc (.cells #[b0, b1] 36)).alloc (.cells #[.bool false, .slice none 0 0, .slice none 0 0] 48)) := by
  have h1 := ((Box.new w a0 a1 36).alloc (.cells #[b0, b1] 36)).alloc (.cells #[.bool false, .slice none 0 0, .slice none 0 0] 48)
  have h2 := (Box.new (w.alloc (.cells #[a0, a1] 36)) b0 b1 36).alloc (.cells #[.bool false, .slice none 0 0, .slice none 0 0] 48)
  have h3 := Box3.new ((w.alloc (.cells #[a0, a1] 36)).alloc (.cells #[b0, b1] 36)) (.bool false) (.slice none 0 0) (.slice none 0 0) 48
  rw [show (w.alloc (.cells #[a0, a1] 36)).heap.size = w.heap.size + 1 by simp] at h2
  rw [show ((w.alloc (.cells #[a0, a1] 36)).alloc (.cells #[b0, b1] 36)).heap.size = w.heap.size + 2 by simp] at h3
  exact ⟨h1, h2, h3, (((Below.refl _ w).alloc (Nat.le_refl _) _).alloc (by simp) _).alloc (by simp; omega) _⟩

set_option maxRecDepth 100000 in
set_option maxHeartbeats 2000000 in
theorem ratof_err {w : World} {Z Y : Zone} {s t : Bool} {l k : List Nat} {A B : Option Addr} {c d : Nat} {E : Int} (u1 : U64s w Z A c l) (u2 : U64s w Y B d k) (hE : errQ s l t k = E) (hE2 : E = 8 ∨ E = 30) :
    Calls Tryz.prog 140 #[.agg #[.bool s, .slice A l.length c], .agg #[.bool t, .slice B k.length d]] w fun e w' => e = .returned (.tuple #[.agg #[.bool false, .slice none 0 0, .slice none 0 0], .int .i64 E]) ∧ Below w.heap.size w w' := by
  obtain ⟨bA, bB, bR, hB0⟩ := boxes_rat w (.bool s) (.slice A l.length c) (.bool t) (.slice B k.length d)
  have ua : IsU w Z (.slice A l.length c) l := ⟨A, c, rfl, u1⟩
  have ub : IsU w Y (.slice B k.length d) k := ⟨B, d, rfl, u2⟩
  have hg := given_twoI (s := s) (t := t) (ty := 36) (IsU.below ua hB0) (IsU.below ub hB0)
  have hck := ratchecked_any (n := 2) (c := 2) hg rfl (by simp)
  have hal : Below (((w.alloc (.cells #[.bool s, .slice A l.length c] 36)).alloc (.cells #[.bool t, .slice B k.length d] 36)).alloc (.cells #[.bool false, .slice none 0 0, .slice none 0 0] 48)).heap.size (((w.alloc (.cells #[.bool s, .slice A l.length c] 36)).alloc (.cells #[.bool t, .slice B k.length d] 36)).alloc (.cells #[.bool false, .slice none 0 0, .slice none 0 0] 48)) ((((w.alloc (.cells #[.bool s, .slice A l.length c] 36)).alloc (.cells #[.bool t, .slice B k.length d] 36)).alloc (.cells #[.bool false, .slice none 0 0, .slice none 0 0] 48)).alloc (.cells #[.bool s, .slice A l.length c, .bool t, .slice B k.length d] 36)) := (Below.refl _ _).alloc (Nat.le_refl _) _
  rw [show (((w.alloc (.cells #[.bool s, .slice A l.length c] 36)).alloc (.cells #[.bool t, .slice B k.length d] 36)).alloc (.cells #[.bool false, .slice none 0 0, .slice none 0 0] 48)).heap.size = w.heap.size + 3 by simp] at hck
  have hB1 := from_ hB0 hal
  have bR1 := bR.below hal
  obtain ⟨a0, a1, _, _, _⟩ := bA.below hal
  obtain ⟨b0, b1, _, _, _⟩ := bB.below hal
  have Hal := Lib.hid hB1
  have hla := u1.len
  have hlb := u2.len
  unfold errQ at hE
  by_cases hok : okI s l = true ∧ okI t k = true
  · rw [if_pos hok] at hE
    have e0 : errCs [(s, l), (t, k)] = 0 := by simp [errCs, hok]
    by_cases hk : k.length = 0
    · rw [if_pos hk] at hE
      subst hE
      rw [e0] at hck
      have Hck := Lib.hid hck
      rw [hk] at Hck Hal bR1 b1 a0 a1 b0 ⊢
      clear hck hg hal hB0 hB1 bA bB bR ua ub u1 u2 e0 hok hk
      generalize l.length = L at *
      go_enter Tryz.func140, Tryz.ntmps140
      go_wp2_with fail
      refine Hck.out.mono ?_
      rintro e w1 ⟨rfl, hc1⟩
      have bR2 := bR1.below hc1
      replace b1 := keepC hc1 b1
      have hP := bR2.put (from_ Hal.out hc1) (by omega) (.bool false) (.slice none 0 0) (.slice none 0 0)
      have HP := Lib.hid hP
      obtain ⟨q0, q1, q2, f0, f1, f2, _⟩ := (show Box3 w1 (w.heap.size + 1 + 1) _ _ _ from bR2)
      clear hP bR1
      go_wp2
      refine bodyPost_ret (res_rat2 rfl _ (w.heap.size + 2) rfl HP.out.c0 HP.out.c1 HP.out.c2) rfl ?_
      exact ⟨rfl, HP.out.bel⟩
    · rw [if_neg hk] at hE
      rcases hE2 with rfl | rfl <;> cases hE
  · rw [if_neg hok] at hE
    subst hE
    have e0 : errCs [(s, l), (t, k)] = 8 := by
      unfold errCs
      rw [if_neg]
      simpa using hok
    rw [e0] at hck
    have Hck := Lib.hid hck
    clear hck hg hal hB0 hB1 bA bB bR ua ub u1 u2 e0 hok
    generalize l.length = L at *
    generalize k.length = K at *
    go_enter Tryz.func140, Tryz.ntmps140
    go_wp2_with fail
    refine Hck.out.mono ?_
    rintro e w1 ⟨rfl, hc1⟩
    have bR2 := bR1.below hc1
    have hP := bR2.put (from_ Hal.out hc1) (by omega) (.bool false) (.slice none 0 0) (.slice none 0 0)
    have HP := Lib.hid hP
    obtain ⟨q0, q1, q2, f0, f1, f2, _⟩ := (show Box3 w1 (w.heap.size + 1 + 1) _ _ _ from bR2)
    clear hP bR1
    go_wp2
    refine bodyPost_ret (res_rat2 rfl _ (w.heap.size + 2) rfl HP.out.c0 HP.out.c1 HP.out.c2) rfl ?_
    exact ⟨rfl, HP.out.bel⟩

set_option maxRecDepth 100000 in
set_option maxHeartbeats 2000000 in
theorem ratof_good {w : World} {Z Y : Zone} {s t r : Bool} {l k : List Nat} {A B : Option Addr} {c d : Nat} (u1 : U64s w Z A c l) (u2 : U64s w Y B d k) (o1 : okI s l = true) (o2 : okI t k = true) (hk : 0 < k.length) (hl : l.length ≤ 10000) (hl2 : k.length ≤ 10000) (hr : ((s != t) && decide (0 < (ratA l k).length)) = r) :
    Calls Tryz.prog 140 #[.agg #[.bool s, .slice A l.length c], .agg #[.bool t, .slice B k.length d]] w fun e w' => ∃ An cn Ad cd, e = .returned (.tuple #[.agg #[.bool r, .slice An (ratA l k).length cn, .slice Ad (ratD l k).length cd], .int .i64 0]) ∧ U64s w' (new w.heap.size) An cn (ratA l k) ∧ U64s w' (new w.heap.size) Ad cd (ratD l k) ∧ Below w.heap.size w w' := by
  obtain ⟨bA, bB, bR, hB0⟩ := boxes_rat w (.bool s) (.slice A l.length c) (.bool t) (.slice B k.length d)
  have ua : IsU w Z (.slice A l.length c) l := ⟨A, c, rfl, u1⟩
  have ub : IsU w Y (.slice B k.length d) k := ⟨B, d, rfl, u2⟩
  have hg := given_twoI (s := s) (t := t) (ty := 36) (IsU.below ua hB0) (IsU.below ub hB0)
  have hck := ratchecked_any (n := 2) (c := 2) hg rfl (by simp)
  have hal : Below (((w.alloc (.cells #[.bool s, .slice A l.length c] 36)).alloc (.cells #[.bool t, .slice B k.length d] 36)).alloc (.cells #[.bool false, .slice none 0 0, .slice none 0 0] 48)).heap.size (((w.alloc (.cells #[.bool s, .slice A l.length c] 36)).alloc (.cells #[.bool t, .slice B k.length d] 36)).alloc (.cells #[.bool false, .slice none 0 0, .slice none 0 0] 48)) ((((w.alloc (.cells #[.bool s, .slice A l.length c] 36)).alloc (.cells #[.bool t, .slice B k.length d] 36)).alloc (.cells #[.bool false, .slice none 0 0, .slice none 0 0] 48)).alloc (.cells #[.bool s, .slice A l.length c, .bool t, .slice B k.length d] 36)) := (Below.refl _ _).alloc (Nat.le_refl _) _
  rw [show (((w.alloc (.cells #[.bool s, .slice A l.length c] 36)).alloc (.cells #[.bool t, .slice B k.length d] 36)).alloc (.cells #[.bool false, .slice none 0 0, .slice none 0 0] 48)).heap.size = w.heap.size + 3 by simp] at hck
  have hB1 := from_ hB0 hal
  have bR1 := bR.below hal
  obtain ⟨a0, a1, _, _, _⟩ := bA.below hal
  obtain ⟨b0, b1, _, _, _⟩ := bB.below hal
  have e0 : errCs [(s, l), (t, k)] = 0 := by simp [errCs, o1, o2]
  rw [e0] at hck
  have ga : good l = true := by unfold okI at o1; rw [Bool.and_eq_true] at o1; exact o1.1
  have gb : good k = true := by unfold okI at o2; rw [Bool.and_eq_true] at o2; exact o2.1
  have na := ua.num ga
  have nb := ub.num gb
  have qa : (limbs (val l)).length ≤ 10000 := by rw [limbs_val l u1.small ga]; exact hl
  have qb : (limbs (val k)).length ≤ 10000 := by rw [limbs_val k u2.small gb]; exact hl2
  have pk := val_pos_of u2.small gb hk
  have hgp : 0 < Nat.gcd (val l) (val k) := Nat.gcd_pos_of_pos_right _ pk
  have hGcd : Hid (∀ w1, Below w.heap.size w w1 → Calls Tryz.prog 98 #[.slice A l.length c, .slice B k.length d] w1 fun e w' => ∃ v, e = .returned (.tuple #[v, .int .i64 0]) ∧ IsN w' (new w1.heap.size) v (Nat.gcd (val l) (val k)) ∧ Below w1.heap.size w1 w') := fun w1 h => gcd_good (na.below h) (nb.below h) (by omega) (by omega)
  have da : val l = val l / Nat.gcd (val l) (val k) * Nat.gcd (val l) (val k) := (Nat.div_mul_cancel (Nat.gcd_dvd_left _ _)).symm
  have db : val k = val k / Nat.gcd (val l) (val k) * Nat.gcd (val l) (val k) := (Nat.div_mul_cancel (Nat.gcd_dvd_right _ _)).symm
  have hEa : Hid (∀ w1 Zg v, Below w.heap.size w w1 → IsN w1 Zg v (Nat.gcd (val l) (val k)) → Calls Tryz.prog 185 #[.slice A l.length c, v] w1 fun e w' => ∃ Aq cq, e = .returned (.tuple #[.slice Aq (ratA l k).length cq, .int .i64 0]) ∧ U64s w' (new w1.heap.size) Aq cq (ratA l k) ∧ Below w1.heap.size w1 w') := fun w1 Zg v h hv => by
    refine (dexact_mul (m := val l / Nat.gcd (val l) (val k)) (by rw [← da]; exact na.below h) hv hgp (by rw [← da]; omega)).mono ?_
    rintro e w' ⟨_, rfl, ⟨Aq, cq, rfl, hu⟩, hb⟩
    exact ⟨Aq, cq, rfl, hu, hb⟩
  have hEb : Hid (∀ w1 Zg v, Below w.heap.size w w1 → IsN w1 Zg v (Nat.gcd (val l) (val k)) → Calls Tryz.prog 185 #[.slice B k.length d, v] w1 fun e w' => ∃ Aq cq, e = .returned (.tuple #[.slice Aq (ratD l k).length cq, .int .i64 0]) ∧ U64s w' (new w1.heap.size) Aq cq (ratD l k) ∧ Below w1.heap.size w1 w') := fun w1 Zg v h hv => by
    refine (dexact_mul (m := val k / Nat.gcd (val l) (val k)) (by rw [← db]; exact nb.below h) hv hgp (by rw [← db]; omega)).mono ?_
    rintro e w' ⟨_, rfl, ⟨Aq, cq, rfl, hu⟩, hb⟩
    exact ⟨Aq, cq, rfl, hu, hb⟩
  have Hck := Lib.hid hck
  have Hal := Lib.hid hB1
  have z1 : ((k.length : Int) == 0) = false := beq_eq_false_iff_ne.2 (by omega)
  clear hck hg hal hB0 hB1 bA bB bR ua ub u1 u2 e0 o1 o2 ga gb na nb qa qb pk hgp da db
  generalize ratA l k = ra at *
  generalize ratD l k = rd at *
  generalize Nat.gcd (val l) (val k) = G at *
  generalize l.length = L at *
  generalize k.length = K at *
  have hcase : (s = t ∧ r = false) ∨ (s ≠ t ∧ r = true ∧ 0 < ra.length) ∨ (s ≠ t ∧ r = false ∧ ra = []) := by
    by_cases h : s = t
    · subst h
      exact .inl ⟨rfl, by rw [← hr]; cases s <;> rfl⟩
    · have h1 : (s != t) = true := bne_iff_ne.2 h
      rw [h1, Bool.true_and] at hr
      by_cases h0 : 0 < ra.length
      · exact .inr (.inl ⟨h, by rw [← hr]; exact decide_eq_true h0, h0⟩)
      · exact .inr (.inr ⟨h, by rw [← hr]; exact decide_eq_false h0, List.length_eq_zero_iff.1 (by omega)⟩)
  clear hr
  rcases hcase with ⟨rfl, rfl⟩ | ⟨hne, rfl, h0⟩ | ⟨hne, rfl, rfl⟩
  · cases s
    all_goals
      go_enter Tryz.func140, Tryz.ntmps140
      go_wp2_with fail
      refine Hck.out.mono ?_
      rintro e w1 ⟨rfl, hc1⟩
      have hB1 := from_ Hal.out hc1
      have bR2 := bR1.below hc1
      replace a0 := keepC hc1 a0
      replace a1 := keepC hc1 a1
      replace b0 := keepC hc1 b0
      replace b1 := keepC hc1 b1
      clear Hck Hal bR1 hc1
      go_wp2_with fail
      refine (hGcd.out _ hB1).mono ?_
      rintro e w2 ⟨g, rfl, hgn, hc2⟩
      have hB2 := from_ hB1 hc2
      have bR3 := bR2.below hc2
      replace a0 := keepC hc2 a0
      replace a1 := keepC hc2 a1
      replace b0 := keepC hc2 b0
      replace b1 := keepC hc2 b1
      clear bR2 hc2 hB1
      go_wp2_with fail
      refine (hEa.out _ _ _ hB2 hgn).mono ?_
      rintro e w3 ⟨An, cn, rfl, hun, hc3⟩
      have hB3 := from_ hB2 hc3
      have bR4 := bR3.below hc3
      have hgn3 := hgn.below hc3
      replace a0 := keepC hc3 a0
      replace b0 := keepC hc3 b0
      replace b1 := keepC hc3 b1
      have hz3 := bR3.lt
      clear hgn bR3 a1
      go_wp2_with fail
      refine (hEb.out _ _ _ hB3 hgn3).mono ?_
      rintro e w4 ⟨Ad, cd, rfl, hud, hc4⟩
      have hB4 := from_ hB3 hc4
      have bR5 := bR4.below hc4
      have hz4 := bR4.lt
      have hun4 := hun.below hc4
      replace a0 := keepC hc4 a0
      replace b0 := keepC hc4 b0
      have hP := bR5.put hB4 (by omega) (.bool false) (.slice An ra.length cn) (.slice Ad rd.length cd)
      have hn5 := hP.keep (fun (h : w2.heap.size ≤ w.heap.size + 2) => by omega) hun4
      have hd5 := hP.keep (fun (h : w3.heap.size ≤ w.heap.size + 2) => by omega) hud
      have HN := Lib.hid (hn5.mono (Y := new w.heap.size) (new_le hB2.size))
      have HD := Lib.hid (hd5.mono (Y := new w.heap.size) (new_le hB3.size))
      have HP := Lib.hid hP
      obtain ⟨q0, q1, q2, f0, f1, f2, _⟩ := (show Box3 w4 (w.heap.size + 1 + 1) _ _ _ from bR5)
      clear hP hn5 hd5 hun hud hun4 bR4 b1 hc3 hc4 hB2 hB3
      go_wp2
      refine bodyPost_ret (res_rat2 rfl _ (w.heap.size + 2) rfl HP.out.c0 HP.out.c1 HP.out.c2) rfl ?_
      exact ⟨_, _, _, _, rfl, HN.out, HD.out, HP.out.bel⟩
  · have dd := decide_eq_true h0
    have di : decide ((0 : Int) < (ra.length : Int)) = true := decide_eq_true (by omega)
    cases s <;> cases t
    case false.false => exact absurd rfl hne
    case true.true => exact absurd rfl hne
    all_goals
      clear hne
      go_enter Tryz.func140, Tryz.ntmps140
      go_wp2_with fail
      refine Hck.out.mono ?_
      rintro e w1 ⟨rfl, hc1⟩
      have hB1 := from_ Hal.out hc1
      have bR2 := bR1.below hc1
      replace a0 := keepC hc1 a0
      replace a1 := keepC hc1 a1
      replace b0 := keepC hc1 b0
      replace b1 := keepC hc1 b1
      clear Hck Hal bR1 hc1
      go_wp2_with fail
      refine (hGcd.out _ hB1).mono ?_
      rintro e w2 ⟨g, rfl, hgn, hc2⟩
      have hB2 := from_ hB1 hc2
      have bR3 := bR2.below hc2
      replace a0 := keepC hc2 a0
      replace a1 := keepC hc2 a1
      replace b0 := keepC hc2 b0
      replace b1 := keepC hc2 b1
      clear bR2 hc2 hB1
      go_wp2_with fail
      refine (hEa.out _ _ _ hB2 hgn).mono ?_
      rintro e w3 ⟨An, cn, rfl, hun, hc3⟩
      have hB3 := from_ hB2 hc3
      have bR4 := bR3.below hc3
      have hgn3 := hgn.below hc3
      replace a0 := keepC hc3 a0
      replace b0 := keepC hc3 b0
      replace b1 := keepC hc3 b1
      have hz3 := bR3.lt
      clear hgn bR3 a1
      go_wp2_with fail
      refine (hEb.out _ _ _ hB3 hgn3).mono ?_
      rintro e w4 ⟨Ad, cd, rfl, hud, hc4⟩
      have hB4 := from_ hB3 hc4
      have bR5 := bR4.below hc4
      have hz4 := bR4.lt
      have hun4 := hun.below hc4
      replace a0 := keepC hc4 a0
      replace b0 := keepC hc4 b0
      have hP := bR5.put hB4 (by omega) (.bool true) (.slice An ra.length cn) (.slice Ad rd.length cd)
      have hn5 := hP.keep (fun (h : w2.heap.size ≤ w.heap.size + 2) => by omega) hun4
      have hd5 := hP.keep (fun (h : w3.heap.size ≤ w.heap.size + 2) => by omega) hud
      have HN := Lib.hid (hn5.mono (Y := new w.heap.size) (new_le hB2.size))
      have HD := Lib.hid (hd5.mono (Y := new w.heap.size) (new_le hB3.size))
      have HP := Lib.hid hP
      obtain ⟨q0, q1, q2, f0, f1, f2, _⟩ := (show Box3 w4 (w.heap.size + 1 + 1) _ _ _ from bR5)
      clear hP hn5 hd5 hun hud hun4 bR4 b1 hc3 hc4 hB2 hB3
      go_wp2
      refine bodyPost_ret (res_rat2 rfl _ (w.heap.size + 2) rfl HP.out.c0 HP.out.c1 HP.out.c2) rfl ?_
      exact ⟨_, _, _, _, rfl, HN.out, HD.out, HP.out.bel⟩
  · simp only [List.length_nil] at hEa ⊢
    cases s <;> cases t
    case false.false => exact absurd rfl hne
    case true.true => exact absurd rfl hne
    all_goals
      clear hne
      go_enter Tryz.func140, Tryz.ntmps140
      go_wp2_with fail
      refine Hck.out.mono ?_
      rintro e w1 ⟨rfl, hc1⟩
      have hB1 := from_ Hal.out hc1
      have bR2 := bR1.below hc1
      replace a0 := keepC hc1 a0
      replace a1 := keepC hc1 a1
      replace b0 := keepC hc1 b0
      replace b1 := keepC hc1 b1
      clear Hck Hal bR1 hc1
      go_wp2_with fail
      refine (hGcd.out _ hB1).mono ?_
      rintro e w2 ⟨g, rfl, hgn, hc2⟩
      have hB2 := from_ hB1 hc2
      have bR3 := bR2.below hc2
      replace a0 := keepC hc2 a0
      replace a1 := keepC hc2 a1
      replace b0 := keepC hc2 b0
      replace b1 := keepC hc2 b1
      clear bR2 hc2 hB1
      go_wp2_with fail
      refine (hEa.out _ _ _ hB2 hgn).mono ?_
      rintro e w3 ⟨An, cn, rfl, hun, hc3⟩
      have hB3 := from_ hB2 hc3
      have bR4 := bR3.below hc3
      have hgn3 := hgn.below hc3
      replace a0 := keepC hc3 a0
      replace b0 := keepC hc3 b0
      replace b1 := keepC hc3 b1
      have hz3 := bR3.lt
      clear hgn bR3 a1
      go_wp2_with fail
      refine (hEb.out _ _ _ hB3 hgn3).mono ?_
      rintro e w4 ⟨Ad, cd, rfl, hud, hc4⟩
      have hB4 := from_ hB3 hc4
      have bR5 := bR4.below hc4
      have hz4 := bR4.lt
      have hun4 := hun.below hc4
      replace a0 := keepC hc4 a0
      replace b0 := keepC hc4 b0
      have hP := bR5.put hB4 (by omega) (.bool false) (.slice An 0 cn) (.slice Ad rd.length cd)
      have hn5 := hP.keep (fun (h : w2.heap.size ≤ w.heap.size + 2) => by omega) hun4
      have hd5 := hP.keep (fun (h : w3.heap.size ≤ w.heap.size + 2) => by omega) hud
      have HN := Lib.hid (hn5.mono (Y := new w.heap.size) (new_le hB2.size))
      have HD := Lib.hid (hd5.mono (Y := new w.heap.size) (new_le hB3.size))
      have HP := Lib.hid hP
      obtain ⟨q0, q1, q2, f0, f1, f2, _⟩ := (show Box3 w4 (w.heap.size + 1 + 1) _ _ _ from bR5)
      clear hP hn5 hd5 hun hud hun4 bR4 b1 hc3 hc4 hB2 hB3
      go_wp2
      refine bodyPost_ret (res_rat2 rfl _ (w.heap.size + 2) rfl HP.out.c0 HP.out.c1 HP.out.c2) rfl ?_
      exact ⟨_, _, _, _, rfl, HN.out, HD.out, HP.out.bel⟩

end Go.Proofs.YtceenaegchlbcaaGreatDoor
