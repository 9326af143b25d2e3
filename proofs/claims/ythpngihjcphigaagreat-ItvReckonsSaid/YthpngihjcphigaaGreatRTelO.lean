/- Intervals, the document's: shifts. No conditions but bounds on lengths. -/
import Derived.Test.YthpngihjcphigaaGreatRTelM
import Derived.Test.YthpngihjcphigaaGreatRItwS
import Derived.Test.YthpngihjcphigaaGreatRTelC
import Derived.Test.YthpngihjcphigaaGreatRTelJ
import Derived.Test.YthpngihjcphigaaGreatRTelU
set_option linter.unusedVariables false
set_option linter.unusedSimpArgs false
set_option maxRecDepth 100000
set_option maxHeartbeats 40000000
namespace Go.Proofs.YthpngihjcphigaaGreat
open Go.Lib (hid)
open Go.RowKit
variable {A B : Option Addr} {N a b c d g h i : Nat} {P Q : IvP} {V W w : World} {Z1 Z2 : Zone} {a0 a1 a2 a3 a4 a5 b0 b1 b2 b3 b4 b5 c0 c1 : Value} {l rl tl : List Nat} {n r rs s ts : Bool} {p q : Iv} {t x : Int}
theorem fdiv_fin {B : Int} (ht : 0 < t) (hx : -B < x ∧ x < B) : -B < Int.fdiv x t ∧ Int.fdiv x t < B := by
 rw [Int.fdiv_eq_ediv_of_nonneg _ (by omega)]
 have h1 : x / t * t ≤ x := Int.ediv_mul_le x (by omega)
 have h2 : x < (x / t + 1) * t := Int.lt_ediv_add_one_mul_self x ht
 generalize x / t = y at *
 by_cases hy : 0 ≤ y
 · have h3 : y * 1 ≤ y * t := Int.mul_le_mul_of_nonneg_left (by omega) hy
   rw [Int.mul_one] at h3
   omega
 · by_cases hm : y = -1
   · subst hm
     omega
   · have h3 : -(y + 1) * 1 ≤ -(y + 1) * t := Int.mul_le_mul_of_nonneg_left (by omega) (by omega)
     rw [Int.mul_one, Int.neg_mul] at h3
     omega
theorem Nm.inj {y : Int} (h : Nm x s l) (g : Nm y s l) : x = y := by
 have a := (h.1.symm.trans g.1)
 have b : limbs x.natAbs = limbs y.natAbs := h.2.symm.trans g.2
 have c : x.natAbs = y.natAbs := by
  have h1 := val_limbs x.natAbs
  have h2 := val_limbs y.natAbs
  rw [b] at h1
  exact h1.symm.trans h2
 have d := decide_eq_decide.1 a
 omega
theorem v10_keep (hs : (C6 W g a0 a1 a2 a3 a4 a5) ∧ (W.cell? ⟨h, 0, none⟩ = some b0 ∧ W.cell? ⟨h, 1, none⟩ = some b1) ∧ W.cell? ⟨i, 0, none⟩ = some c0 ∧ W.cell? ⟨i, 1, none⟩ = some c1) (hb : Below W.heap.size W V) : (C6 V g a0 a1 a2 a3 a4 a5) ∧ (V.cell? ⟨h, 0, none⟩ = some b0 ∧ V.cell? ⟨h, 1, none⟩ = some b1) ∧ V.cell? ⟨i, 0, none⟩ = some c0 ∧ V.cell? ⟨i, 1, none⟩ = some c1 := ⟨box6_keep hs.1 hb, ⟨keepC hb hs.2.1.1, keepC hb hs.2.1.2⟩, keepC hb hs.2.2.1, keepC hb hs.2.2.2⟩
theorem v10_dr (e : V = W.drew) (hs : (C6 W g a0 a1 a2 a3 a4 a5) ∧ (W.cell? ⟨h, 0, none⟩ = some b0 ∧ W.cell? ⟨h, 1, none⟩ = some b1) ∧ W.cell? ⟨i, 0, none⟩ = some c0 ∧ W.cell? ⟨i, 1, none⟩ = some c1) : (C6 V g a0 a1 a2 a3 a4 a5) ∧ (V.cell? ⟨h, 0, none⟩ = some b0 ∧ V.cell? ⟨h, 1, none⟩ = some b1) ∧ V.cell? ⟨i, 0, none⟩ = some c0 ∧ V.cell? ⟨i, 1, none⟩ = some c1 := by
 subst e
 exact v10_keep hs bdr_
theorem v10_st6 {r : Nat} {x0 x1 x2 x3 x4 x5 : Value} (e : V = ((((((W.setCell ⟨r, 0, none⟩ x0).setCell ⟨r, 1, none⟩ x1).setCell ⟨r, 2, none⟩ x2).setCell ⟨r, 3, none⟩ x3).setCell ⟨r, 4, none⟩ x4).setCell ⟨r, 5, none⟩ x5)) (hg : r ≠ g) (hh : r ≠ h) (hi : r ≠ i) (hs : (C6 W g a0 a1 a2 a3 a4 a5) ∧ (W.cell? ⟨h, 0, none⟩ = some b0 ∧ W.cell? ⟨h, 1, none⟩ = some b1) ∧ W.cell? ⟨i, 0, none⟩ = some c0 ∧ W.cell? ⟨i, 1, none⟩ = some c1) : (C6 V g a0 a1 a2 a3 a4 a5) ∧ (V.cell? ⟨h, 0, none⟩ = some b0 ∧ V.cell? ⟨h, 1, none⟩ = some b1) ∧ V.cell? ⟨i, 0, none⟩ = some c0 ∧ V.cell? ⟨i, 1, none⟩ = some c1 := by
 subst e
 exact ⟨box6_st6 hg hs.1, ⟨st6 hs.2.1.1 hh, st6 hs.2.1.2 hh⟩, st6 hs.2.2.1 hi, st6 hs.2.2.2 hi⟩
theorem two_powT {k : Nat} (hk : k ≤ 63) : 0 < ((2 ^ k : Nat) : Int) ∧ ((2 ^ k : Nat) : Int) < wN 1 := by
 have h1 : 2 ^ k ≤ 2 ^ 63 := Nat.pow_le_pow_right (by omega) hk
 have h2 : 0 < 2 ^ k := Nat.pow_pos (by omega)
 have e : wN 1 = 18446744073709551616 := rfl
 rw [e]
 generalize 2 ^ k = m at *
 omega
theorem up_lo (hN : N ≤ 60) (hx : Ext bigZ (wN N) x) (hb : x < bigZ) (ht : 0 < t ∧ t < wN 1) (e1 : EndL x n s l) (n2 : Nm t ts tl) (e3 : EndL (timesE bigZ x t) r rs rl) : (n = true ∧ r = true ∧ rs = s ∧ rl = l) ∨ (n = false ∧ r = false ∧ ∃ x y, Nm x s l ∧ Nm y ts tl ∧ Nm (x * y) rs rl) := by
 have h0 := bigZ_pos
 have hle := wN_le (show N + 1 ≤ 64 by omega)
 have hle2 := wN_le (show N ≤ 64 by omega)
 have h1 := wN_le (show 1 ≤ 64 by omega)
 have he := ext_times hx (show Ext bigZ (wN 1) t from .inr (.inr (by omega)))
 obtain ⟨rfl, rfl, rfl⟩ := e1
 obtain ⟨rfl, rfl, rfl⟩ := e3
 by_cases h : x = -bigZ
 · have e : timesE bigZ x t = x := by unfold timesE; rw [if_neg (by omega), if_pos (by omega), if_neg (by omega), h]
   rw [e]
   exact .inl ⟨decide_eq_true h, decide_eq_true h, rfl, rfl⟩
 · unfold Ext at hx he
   have hr : -bigZ < timesE bigZ x t ∧ timesE bigZ x t < bigZ := by
    have hz : ¬ (timesE bigZ x t = bigZ ∨ timesE bigZ x t = -bigZ) := by
     unfold timesE
     split
     · omega
     · rw [if_neg (by omega)]
       have m3 : x.natAbs * t.natAbs < (wN N * wN 1).natAbs := by
        rw [Int.natAbs_mul]
        exact Nat.mul_lt_mul_of_lt_of_lt (by omega) (by omega)
       rw [wN_mul] at m3
       have m4 : (x * t).natAbs = x.natAbs * t.natAbs := Int.natAbs_mul _ _
       have m5 := wN_le (show N + 1 ≤ 64 by omega)
       have m6 := wN_pos (N + 1)
       omega
    omega
   have e : timesE bigZ x t = x * t ∨ (x = 0 ∨ t = 0) := by
    unfold timesE
    split
    · exact .inr ‹_›
    · rw [if_neg (by omega)]; exact .inl rfl
   have e2 : timesE bigZ x t = x * t := by
    rcases e with e | e | e
    · exact e
    · rw [e]; unfold timesE; rw [if_pos (.inl rfl), Int.zero_mul]
    · omega
   exact .inr ⟨decide_eq_false h, decide_eq_false (by omega), x, t, nm_e (by omega), n2, by rw [← e2]; exact nm_e hr⟩
theorem up_hi (hN : N ≤ 60) (hx : Ext bigZ (wN N) x) (hb : -bigZ < x) (ht : 0 < t ∧ t < wN 1) (e1 : EndH x n s l) (n2 : Nm t ts tl) (e3 : EndH (timesE bigZ x t) r rs rl) : (n = true ∧ r = true ∧ rs = s ∧ rl = l) ∨ (n = false ∧ r = false ∧ ∃ x y, Nm x s l ∧ Nm y ts tl ∧ Nm (x * y) rs rl) := by
 have h0 := bigZ_pos
 have h1 := wN_le (show 1 ≤ 64 by omega)
 have hn : timesE bigZ (-x) t = -timesE bigZ x t := timesE_negl x t
 obtain ⟨rfl, rfl, rfl⟩ := e1
 obtain ⟨rfl, rfl, rfl⟩ := e3
 by_cases h : x = bigZ
 · have e : timesE bigZ x t = x := by unfold timesE; rw [if_neg (by omega), if_pos (by omega), if_pos ⟨fun _ => by omega, fun _ => by omega⟩, h]
   rw [e]
   exact .inl ⟨decide_eq_true h, decide_eq_true h, rfl, rfl⟩
 · obtain ⟨n', s', l', en⟩ : ∃ n s l, EndL (-x) n s l := ⟨_, _, _, rfl, rfl, rfl⟩
   obtain ⟨m', t', k', em⟩ : ∃ n s l, EndL (timesE bigZ (-x) t) n s l := ⟨_, _, _, rfl, rfl, rfl⟩
   rcases up_lo hN hx.neg (by omega) ht en n2 em with ⟨e1, _⟩ | ⟨e1, e2, a, b, na, nb, nc⟩
   · rw [en.1] at e1
     have := of_decide_eq_true e1
     omega
   · have hx' := hx.range (show N ≤ 64 by omega)
     have ha : a = -x := Nm.inj na (show Nm (-x) s' l' by rw [en.2.1, en.2.2]; exact nm_e (by omega))
     have hbt : b = t := Nm.inj nb n2
     subst ha hbt
     have hm : timesE bigZ x b = x * b := by
      unfold Ext at hx
      unfold timesE
      split
      · rename_i hz
        rcases hz with hz | hz <;> rw [hz] <;> simp
      · rw [if_neg (by omega)]
     have hr : -bigZ < timesE bigZ x b ∧ timesE bigZ x b < bigZ := by
      rw [em.1] at e2
      have h5 := of_decide_eq_false e2
      have h6 := ext_times hx (show Ext bigZ (wN 1) b from .inr (.inr (by omega)))
      have h7 := h6.range (show N + 1 ≤ 64 by omega)
      rw [hn] at h5
      have h8 : timesE bigZ x b ≠ -bigZ := by
       intro h9
       rw [hn, h9, Int.neg_neg] at em
       have h10 := em.2.2
       have h11 := nc
       rw [show lE bigZ = [] from if_neg (by omega)] at h10
       rw [h10] at h11
       have h12 := h11.2.symm
       rw [limbs_eq_nil] at h12
       have h13 : -x * b = -(x * b) := Int.neg_mul _ _
       rw [h13] at h12
       rw [hm] at h9
       omega
      omega
     exact .inr ⟨decide_eq_false h, decide_eq_false (by omega), x, b, nm_e (by omega), n2, by rw [← hm]; exact nm_e hr⟩
theorem dn_lo (hN : N ≤ 60) (hx : Ext bigZ (wN N) x) (hb : x < bigZ) (ht : 0 < t ∧ t < wN 1) (e1 : EndL x n s l) (n2 : Nm t ts tl) (e3 : EndL (downE bigZ x t) r rs rl) : (n = true ∧ r = true ∧ rs = s ∧ rl = l) ∨ (n = false ∧ r = false ∧ ∃ x y, Nm x s l ∧ Nm y ts tl ∧ y ≠ 0 ∧ Nm (rq x y true) rs rl) := by
 have h0 := bigZ_pos
 have hle := wN_le (show N ≤ 64 by omega)
 have he := ext_down (y := t) hx ht.1
 obtain ⟨rfl, rfl, rfl⟩ := e1
 obtain ⟨rfl, rfl, rfl⟩ := e3
 by_cases h : x = -bigZ
 · have e : downE bigZ x t = x := if_pos (.inr h)
   rw [e]
   exact .inl ⟨decide_eq_true h, decide_eq_true h, rfl, rfl⟩
 · unfold Ext at hx he
   have e : downE bigZ x t = Int.fdiv x t := if_neg (by omega)
   have hr := fdiv_fin ht.1 (show -bigZ < x ∧ x < bigZ by omega)
   rw [e]
   exact .inr ⟨decide_eq_false h, decide_eq_false (by omega), x, t, nm_e (by omega), n2, by omega, by rw [rq_down ht.1]; exact nm_e hr⟩
theorem dn_hi (hN : N ≤ 60) (hx : Ext bigZ (wN N) x) (hb : -bigZ < x) (ht : 0 < t ∧ t < wN 1) (e1 : EndH x n s l) (n2 : Nm t ts tl) (e3 : EndH (downE bigZ x t) r rs rl) : (n = true ∧ r = true ∧ rs = s ∧ rl = l) ∨ (n = false ∧ r = false ∧ ∃ x y, Nm x s l ∧ Nm y ts tl ∧ y ≠ 0 ∧ Nm (rq x y true) rs rl) := by
 have h0 := bigZ_pos
 have hle := wN_le (show N ≤ 64 by omega)
 obtain ⟨rfl, rfl, rfl⟩ := e1
 obtain ⟨rfl, rfl, rfl⟩ := e3
 by_cases h : x = bigZ
 · have e : downE bigZ x t = x := if_pos (.inl h)
   rw [e]
   exact .inl ⟨decide_eq_true h, decide_eq_true h, rfl, rfl⟩
 · unfold Ext at hx
   have e : downE bigZ x t = Int.fdiv x t := if_neg (by omega)
   have hr := fdiv_fin ht.1 (show -bigZ < x ∧ x < bigZ by omega)
   rw [e]
   exact .inr ⟨decide_eq_false h, decide_eq_false (by omega), x, t, nm_e (by omega), n2, by omega, by rw [rq_down ht.1]; exact nm_e hr⟩
theorem upI_ok (g : IvN N P.1 P.2) (hN : N ≤ 31) (ht : 0 < t ∧ t < wN 1) : IvN (N + 1) (timesE bigZ P.1 t) (timesE bigZ P.2 t) := by
 have h0 := bigZ_pos
 have hq1 := wN_le (show 1 ≤ 64 by omega)
 have hq2 := wN_le (show N ≤ 64 by omega)
 have et : Ext bigZ (wN 1) t := .inr (.inr (by omega))
 have a := ext_times g.lo et
 have b := ext_times g.hi et
 have c := timesE_upl ht.1 g.le (g.lo.up (by omega)) (g.hi.up (by omega)) (et.up (by omega))
 obtain ⟨n1, s1, l1, e1⟩ : ∃ n s l, EndL P.1 n s l := ⟨_, _, _, rfl, rfl, rfl⟩
 obtain ⟨n2, s2, l2, e2⟩ : ∃ n s l, EndL (timesE bigZ P.1 t) n s l := ⟨_, _, _, rfl, rfl, rfl⟩
 refine ⟨a, b, c, ?_, ?_⟩
 · have hl := g.nlo
   have hx := g.lo
   unfold Ext at hx a
   unfold timesE
   split
   · omega
   · split
     · rw [if_neg (by omega)]; omega
     · have m3 : P.1.natAbs * t.natAbs < (wN N * wN 1).natAbs := by
        rw [Int.natAbs_mul]
        exact Nat.mul_lt_mul_of_lt_of_lt (by omega) (by omega)
       rw [wN_mul] at m3
       have m4 : (P.1 * t).natAbs = P.1.natAbs * t.natAbs := Int.natAbs_mul _ _
       have m5 := wN_le (show N + 1 ≤ 64 by omega)
       have m6 := wN_pos (N + 1)
       omega
 · have hl := g.nhi
   have hx := g.hi
   unfold Ext at hx b
   unfold timesE
   split
   · omega
   · split
     · rw [if_pos ⟨fun _ => by omega, fun _ => by omega⟩]; omega
     · have m3 : P.2.natAbs * t.natAbs < (wN N * wN 1).natAbs := by
        rw [Int.natAbs_mul]
        exact Nat.mul_lt_mul_of_lt_of_lt (by omega) (by omega)
       rw [wN_mul] at m3
       have m4 : (P.2 * t).natAbs = P.2.natAbs * t.natAbs := Int.natAbs_mul _ _
       have m5 := wN_le (show N + 1 ≤ 64 by omega)
       have m6 := wN_pos (N + 1)
       omega
theorem dnI_ok (g : IvN N P.1 P.2) (hN : N ≤ 31) (ht : 0 < t ∧ t < wN 1) : IvN (N + 1) (downE bigZ P.1 t) (downE bigZ P.2 t) := by
 have h0 := bigZ_pos
 have w1 := wN_le (show 32 ≤ 64 by omega)
 have a := (ext_down (y := t) g.lo ht.1).up (show N ≤ N + 1 by omega)
 have b := (ext_down (y := t) g.hi ht.1).up (show N ≤ N + 1 by omega)
 have c := downE_monol bigZ_pos w1 (g.lo.up (by omega)) (g.hi.up (by omega)) g.le ht.1
 refine ⟨a, b, c, ?_, ?_⟩
 · have hl := g.nlo
   have hx := g.lo.range (show N ≤ 64 by omega)
   unfold downE
   split
   · omega
   · exact (fdiv_fin ht.1 (by omega)).2
 · have hl := g.nhi
   have hx := g.hi.range (show N ≤ 64 by omega)
   unfold downE
   split
   · omega
   · exact (fdiv_fin ht.1 (by omega)).1
theorem pow_end {Q : IvP} {k0 : Int} {n : Bool} (h : 0 ≤ k0 ∧ k0 ≤ 63) (es : s = sE k0) (el : l = lE k0) : intX s l = ((k0.toNat : Nat) : Int) ∧ k0.toNat ≤ 63 ∧ l.length ≤ 1 := by
 have hb := big_one
 have hw : wN 1 = 18446744073709551616 := rfl
 have hb2 := wN_le (show 1 ≤ 64 by omega)
 have n := nm_e (n := k0) ⟨by omega, by omega⟩
 rw [← es, ← el] at n
 obtain ⟨rfl, e⟩ := n
 have i := (int_z (x := k0) ⟨by omega, by omega⟩).2
 rw [← e] at i
 refine ⟨i.trans (by omega), by omega, ?_⟩
 rw [e]
 exact len_limbs_le (by omega)
def opE (up : Bool) (x t : Int) : Int := bif up then timesE bigZ x t else downE bigZ x t
def shP (up : Bool) (P Q : IvP) : IvP := bif up then shlP P Q else shrP P Q
theorem r16ud_lo (up : Bool) (hN : N ≤ 60) (hx : Ext bigZ (wN N) x) (hb : x < bigZ) (ht : 0 < t ∧ t < wN 1) (e1 : EndL x n s l) (n2 : Nm t ts tl) (e3 : EndL (opE up x t) r rs rl) (hl : l.length ≤ 1000) (hk : tl.length ≤ 1000) (u : U64s w Z1 A c l) (v : U64s w Z2 B d tl) :
  Calls Tryz.prog (bif up then 52 else 54) #[.agg #[.bool n, .bool s, .slice A l.length c], .agg #[.bool ts, .slice B tl.length d]] w fun e w' => ∃ E e', e = .returned (.agg #[.bool r, .bool rs, .slice E rl.length e']) ∧ U64s w' old E e' rl ∧ Below w.heap.size w w' := by
 cases up
 · exact r16down_w (dn_lo hN hx hb ht e1 n2 e3) hl hk u v
 · exact r16up_w (up_lo hN hx hb ht e1 n2 e3) hl hk u v
theorem r16ud_hi (up : Bool) (hN : N ≤ 60) (hx : Ext bigZ (wN N) x) (hb : -bigZ < x) (ht : 0 < t ∧ t < wN 1) (e1 : EndH x n s l) (n2 : Nm t ts tl) (e3 : EndH (opE up x t) r rs rl) (hl : l.length ≤ 1000) (hk : tl.length ≤ 1000) (u : U64s w Z1 A c l) (v : U64s w Z2 B d tl) :
  Calls Tryz.prog (bif up then 52 else 54) #[.agg #[.bool n, .bool s, .slice A l.length c], .agg #[.bool ts, .slice B tl.length d]] w fun e w' => ∃ E e', e = .returned (.agg #[.bool r, .bool rs, .slice E rl.length e']) ∧ U64s w' old E e' rl ∧ Below w.heap.size w w' := by
 cases up
 · exact r16down_w (dn_hi hN hx hb ht e1 n2 e3) hl hk u v
 · exact r16up_w (up_hi hN hx hb ht e1 n2 e3) hl hk u v
theorem opI_ok (up : Bool) (g : IvN N P.1 P.2) (hN : N ≤ 31) (ht : 0 < t ∧ t < wN 1) : IvN (N + 1) (opE up P.1 t) (opE up P.2 t) := by
 cases up
 · exact dnI_ok g hN ht
 · exact upI_ok g hN ht
theorem r16sh_w (up g : Bool) {Z3 Z4 : Zone} {C D : Option Addr} (u1 : U64s w Z1 A a p.l0) (u2 : U64s w Z2 B b p.l1) (u3 : U64s w Z3 C c q.l0) (u4 : U64s w Z4 D d q.l1) (q1 : p.l0.length ≤ 60) (q2 : p.l1.length ≤ 60) (q3 : q.l0.length ≤ 60) (q4 : q.l1.length ≤ 60) {r : Iv} (h1 : p.ok = true) (h2 : q.ok = true) (hp : IvW P p) (gp : IvN N P.1 P.2) (hq : IvW Q q) (gq : IvN N Q.1 Q.2) (hN1 : 1 ≤ N) (hN : N ≤ 28) (hg : decide ((shK Q).1 ≤ (shK Q).2) = g) (hr : IvW (bif g then shP up P Q else (0, 0)) r) :
  Calls Tryz.prog (bif up then 15 else 17) #[.agg #[.bool p.n0, .bool p.s0, .slice A p.l0.length a, .bool p.n1, .bool p.s1, .slice B p.l1.length b], .agg #[.bool q.n0, .bool q.s0, .slice C q.l0.length c, .bool q.n1, .bool q.s1, .slice D q.l1.length d]] w fun e w' => ∃ rA ra rB rb, e = .returned (.tuple #[.agg #[.bool r.n0, .bool r.s0, .slice rA r.l0.length ra, .bool r.n1, .bool r.s1, .slice rB r.l1.length rb], .int .i64 (bif g then 0 else 2)]) ∧ U64s w' old rA ra r.l0 ∧ U64s w' old rB rb r.l1 ∧ Below w.heap.size w w' := by
 have hw1 : wN 1 = 18446744073709551616 := rfl
 have hb2 := wN_le (show 1 ≤ 64 by omega)
 obtain ⟨s63, l63, n63⟩ : ∃ s l, Nm (63 : Int) s l := ⟨_, _, rfl, rfl⟩
 have ln63 : l63.length ≤ 1 := by rw [n63.2]; exact len_limbs_le (by decide)
 have e63 := nm_e (n := 63) ⟨by omega, by omega⟩
 have iw : IvW (0, 63) (⟨false, false, [], false, s63, l63⟩ : Iv) := ⟨onZ_w.1, (decide_eq_false (by dsimp only; omega)).symm, n63.1.trans e63.1.symm, n63.2.trans e63.2.symm⟩
 have gw : IvN 1 ((0, 63) : IvP).1 ((0, 63) : IvP).2 := ⟨.inr (.inr (by dsimp only; omega)), .inr (.inr (by dsimp only; omega)), by dsimp only; omega, by dsimp only; omega, by dsimp only; omega⟩
 obtain ⟨kk, hkk⟩ : ∃ r, IvW (if max Q.1 0 ≤ min Q.2 63 then (max Q.1 0, min Q.2 63) else (0, 0)) r := ⟨_, IvW.mk _⟩
 have OF := hid (fun (W : World) => r05of_p (w := W) n63 (by omega))
 have BW := fun (W : World) (Z Y : Zone) (E F : Option Addr) (e f : Nat) (u : U64s W Z E e []) (v : U64s W Y F f l63) => r16between_w (s := false) (l := []) (x := 0) ⟨rfl, rfl⟩ n63 (by decide) (by omega) u v
 have BH := fun (W : World) (Z3 Z4 : Zone) (E F : Option Addr) (e f : Nat) (h : Below w.heap.size w W) (x : U64s W Z3 E e []) (y : U64s W Z4 F f l63) => r16both_v hq gq (by omega) iw gw (by omega) hkk hg (u3.below h) (u4.below h) x y
 simp only [List.length_nil] at BW BH
 replace BW := hid BW
 replace BH := hid BH
 have kp := hp.k gp (by omega)
 obtain ⟨xs, xl, nx⟩ : ∃ s l, Nm ((2 ^ (max Q.1 0).toNat : Nat) : Int) s l := ⟨_, _, rfl, rfl⟩
 obtain ⟨ys, yl, ny⟩ : ∃ s l, Nm ((2 ^ (min Q.2 63).toNat : Nat) : Int) s l := ⟨_, _, rfl, rfl⟩
 obtain ⟨i1, hi1⟩ : ∃ i, IvW (opE up P.1 ((2 ^ (max Q.1 0).toNat : Nat) : Int), opE up P.2 ((2 ^ (max Q.1 0).toNat : Nat) : Int)) i := ⟨_, IvW.mk _⟩
 obtain ⟨i2, hi2⟩ : ∃ i, IvW (opE up P.1 ((2 ^ (min Q.2 63).toNat : Nat) : Int), opE up P.2 ((2 ^ (min Q.2 63).toNat : Nat) : Int)) i := ⟨_, IvW.mk _⟩
 have GO := hid (show g = true → (max Q.1 0 ≤ 63 ∧ 0 ≤ min Q.2 63 ∧ max Q.1 0 ≤ min Q.2 63) ∧ IvW (max Q.1 0, min Q.2 63) kk from fun h => by
  have hle := of_decide_eq_true (hg.trans h)
  unfold shK at hle
  dsimp only at hle
  rw [if_pos hle] at hkk
  exact ⟨⟨by omega, by omega, hle⟩, hkk⟩)
 obtain ⟨bA, bB, bR, hB0⟩ := boxX w (.bool p.n0) (.bool p.s0) (.slice A p.l0.length a) (.bool p.n1) (.bool p.s1) (.slice B p.l1.length b) (.bool q.n0) (.bool q.s0) (.slice C q.l0.length c) (.bool q.n1) (.bool q.s1) (.slice D q.l1.length d) (.bool false) (.bool false) (.slice none 0 0) (.bool false) (.bool false) (.slice none 0 0) 29
 have nR := NoU.new6 ((w.alloc (.cells #[.bool p.n0, .bool p.s0, .slice A p.l0.length a, .bool p.n1, .bool p.s1, .slice B p.l1.length b] 29)).alloc (.cells #[.bool q.n0, .bool q.s0, .slice C q.l0.length c, .bool q.n1, .bool q.s1, .slice D q.l1.length d] 29)) false false false false none none 0 0 0 0 29
 rw [World.size_alloc, World.size_alloc] at nR
 obtain ⟨TW, HA, HBb, HR, HN, HB⟩ := hid6 (fun (W : World) (h : Below w.heap.size w W) => r16two_any (w := W) (n0 := p.n0) (s0 := p.s0) (n1 := p.n1) (s1 := p.s1) (m0 := q.n0) (t0 := q.s0) (m1 := q.n1) (t1 := q.s1) (u1.below h) (u2.below h) (u3.below h) (u4.below h) q1 q2 q3 q4 h1 h2) bA bB bR (show NoU _ (w.heap.size + 2) from nR) hB0
 have a0 := bA.all
 have b0 := bB.all
 rw [show errA2 true true = 0 by decide] at TW
 obtain ⟨HU, HP_⟩ := hid2 (And.intro hr (And.intro hi1 (And.intro hi2 (And.intro nx ny)))) (And.intro hp gp)
 clear nR bR hB0 hkk hg iw gw e63 ln63 n63 hr hi1 hi2 nx ny
 clear hw1
 obtain ⟨v, hv⟩ : ∃ v, up = v := ⟨_, rfl⟩
 rw [hv]
 have Hv := hid hv
 clear hv
 cases v
 all_goals
  simp only [cond_true, cond_false]
  first | (go_enter Tryz.func15, Tryz.ntmps15) | (go_enter Tryz.func17, Tryz.ntmps17)
  go_wp2_with fail
  refine (TW.out _ HB.out).mono ?_
  rintro e w1 ⟨rfl, hc⟩
  clear a0 b0 TW
  replace HN := hid (HN.out.below HR.out.lt hc)
  replace HA := hid (HA.out.below hc)
  replace HBb := hid (HBb.out.below hc)
  replace HR := hid (HR.out.below hc)
  replace HB := hid (from_ HB.out hc)
  clear hc
  go_upto_region 4 with fail
  have hs0 := HBb.out.all
  have hs := box6_keep hs0 bdr_
  have Hc0 := hid (Below.refl w1.heap.size w1)
  have Hc := hid (Below.refl w1.heap.size w1).drew
  have hla := HBb.out.lt
  go_cut [7, 8] (fun s7 s8 wx => ∃ (gx : Nat) (A : Option Addr) (a : Nat) (B : Option Addr) (b : Nat), s7 = .pointer (some ⟨gx, 0, none⟩) ∧ s8 = .bool g ∧ ResB w1 wx gx kk A a B b)
  case first =>
   first | go_region_held3 (fun w' => C6 w' (w.heap.size + 1) (.bool q.n0) (.bool q.s0) (.slice C q.l0.length c) (.bool q.n1) (.bool q.s1) (.slice D q.l1.length d))
    ((repeat' (first | with_reducible apply v6_al rfl | with_reducible apply v6_st6 rfl)) <;> (first | with_reducible exact hs | (with_reducible apply v6_dr rfl; (repeat' (with_reducible apply v6_al rfl)); with_reducible exact hs0) | omega))
    (((first
      | (go_at_call 49; (first | (with_reducible refine (OF.out _).mono ?_)); rintro e w2 ⟨E1, e1, rfl, x1, hc2⟩)
      | (go_at_call 48; (first | (with_reducible refine (BW.out _ _ _ _ _ _ _ (U64s.nil _ old) x1).mono ?_) | (with_reducible refine (BW.out _ _ _ _ _ _ _ (U64s.nil _ old) (x1.below bal_)).mono ?_)); rintro e w2 ⟨E2, e2, E3, e3, rfl, x2, x3, hc2⟩)
      | (go_at_call 47; (first | (with_reducible refine (BH.out _ _ _ _ _ _ _ (from_ HB.out Hc.out) x2 x3).mono ?_) | (with_reducible refine (BH.out _ _ _ _ _ _ _ (from_ HB.out (from_ Hc.out bal_)) (x2.below bal_) (x3.below bal_)).mono ?_) | (with_reducible refine (BH.out _ _ _ _ _ _ _ (from_ HB.out (from_ (from_ Hc0.out bal_) bdr_)) x2 x3).mono ?_)); rintro e w2 ⟨T0, t0, T1, t1, rfl, o0, o1, hc2⟩)); (first | (with_reducible have hx := box6_keep hs hc2; have hb := hid (from_ Hc.out hc2); (try replace HF := hid (HF.out.below hc2)); skip) | (with_reducible have z1 := Hc.out.size; have hx := box6_keep (box6_keep hs bal_) hc2; have hb := hid (from_ (from_ Hc.out bal_) hc2); have HF := hid ((BZ.new _ 29).below hc2); skip) | (with_reducible have z1 := Hc0.out.size; have hx := box6_keep (box6_keep (box6_keep hs0 bal_) bdr_) hc2; have hb := hid (from_ (from_ (from_ Hc0.out bal_) bdr_) hc2); have HF := hid (((BZ.new _ 29).below bdr_).below hc2))); replace hs := hx; replace Hc := hb; clear hx hb; (try clear e0 e1' e2' e3' e4 e5' f0 f1 f2 f3 f4 f5); (try obtain ⟨e0, e1', e2', e3', e4, e5', f0, f1, f2, f3, f4, f5, _⟩ := id HF.out.box); clear hc2)) | fail
   all_goals
    clear hs hs0
    go_wp2_with fail
    go_meet
    (first | exact ⟨_, _, _, _, _, rfl, by first | rfl | trivial, by with_reducible exact ResB.nw Hc.out o0 o1⟩ | exact ⟨_, _, _, _, _, rfl, by first | rfl | trivial, by with_reducible exact ResB.ol Hc.out HF.out (by omega) o0 o1⟩)
  case rest =>
   clear hs hs0 Hc Hc0 hla OF BW BH
   obtain ⟨gx, X0, x0, X1, x1, rfl, rfl, hR⟩ := hcut
   have BXk := hid hR.box
   have hc := hR.bel
   obtain ⟨W2, hren⟩ : ∃ W, W = wc := ⟨_, rfl⟩
   subst hren
   replace HN := hid (HN.out.below HR.out.lt hc)
   replace HA := hid (HA.out.below hc)
   replace HBb := hid (HBb.out.below hc)
   replace HR := hid (HR.out.below hc)
   replace HB := hid (from_ HB.out hc)
   clear hc hR
   cases g with
   | false =>
     obtain ⟨z0, z1, z2, z3, z4, z5⟩ := zero_iv (r := r) HU.out.1
     have Hz := hid (And.intro z0 (And.intro z1 (And.intro z2 (And.intro z3 (And.intro z4 z5)))))
     clear BXk z0 z1 z2 z3 z4 z5 HU HP_ GO u1 u2 u3 u4
     have HP := hid (HR.out.put HB.out (show w.heap.size ≤ w.heap.size + 2 by omega) (.bool false) (.bool false) (.slice none 0 0) (.bool false) (.bool false) (.slice none 0 0))
     obtain ⟨g0, g1, g2, g3, g4, g5, f0, f1, f2, f3, f4, f5, _⟩ := id HR.out
     go_wp2
     refine bodyPost_ret (res_itv2 rfl _ (w.heap.size + 2) rfl HP.out.box) rfl ?_
     obtain ⟨z0, z1, z2, z3, z4, z5⟩ := Hz.out
     exact ⟨none, 0, none, 0, by rw [z0, z1, z2, z3, z4, z5]; rfl, by rw [z2]; exact U64s.nil _ _, by rw [z5]; exact U64s.nil _ _, HP.out.bel⟩
   | true =>
     obtain ⟨hr, hi1, hi2, nx, ny⟩ := HU.out
     obtain ⟨hp, gp⟩ := HP_.out
     obtain ⟨⟨k3, k4, k5⟩, hk⟩ := GO.out rfl
     obtain ⟨x0, k1, lk0⟩ := pow_end (Q := Q) (n := kk.n0) (k0 := max Q.1 0) ⟨by omega, k3⟩ hk.1.2.1 hk.1.2.2
     obtain ⟨y0, k2, lk1⟩ := pow_end (Q := Q) (n := kk.n1) (k0 := min Q.2 63) ⟨k4, by omega⟩ hk.2.2.1 hk.2.2.2
     have t1 := two_powT k1
     have t2 := two_powT k2
     have lx : xl.length ≤ 1 := len_of_ext (N := 1) (.inr (.inr (by omega))) ⟨by omega, by omega⟩ nx
     have ly : yl.length ≤ 1 := len_of_ext (N := 1) (.inr (.inr (by omega))) ⟨by omega, by omega⟩ ny
     obtain ⟨PX, PY⟩ := hid2 (fun (W : World) (Z : Zone) (E : Option Addr) (e : Nat) (u : U64s W Z E e kk.l0) => r16power_w (n := kk.n0) k1 x0 nx (by omega) u) (fun (W : World) (Z : Zone) (E : Option Addr) (e : Nat) (u : U64s W Z E e kk.l1) => r16power_w (n := kk.n1) k2 y0 ny (by omega) u)
     have U1 := fun (W : World) (Z : Zone) (E : Option Addr) (e : Nat) (h : Below w.heap.size w W) (x : U64s W Z E e xl) => r16ud_lo up (by omega) gp.lo gp.nlo t1 hp.1 nx hi1.1 (by have := kp.q0; omega) (by omega) (u1.below h) x
     have U2 := fun (W : World) (Z : Zone) (E : Option Addr) (e : Nat) (h : Below w.heap.size w W) (x : U64s W Z E e xl) => r16ud_hi up (by omega) gp.hi gp.nhi t1 hp.2 nx hi1.2 (by have := kp.q1; omega) (by omega) (u2.below h) x
     have U3 := fun (W : World) (Z : Zone) (E : Option Addr) (e : Nat) (h : Below w.heap.size w W) (x : U64s W Z E e yl) => r16ud_lo up (by omega) gp.lo gp.nlo t2 hp.1 ny hi2.1 (by have := kp.q0; omega) (by omega) (u1.below h) x
     have U4 := fun (W : World) (Z : Zone) (E : Option Addr) (e : Nat) (h : Below w.heap.size w W) (x : U64s W Z E e yl) => r16ud_hi up (by omega) gp.hi gp.nhi t2 hp.2 ny hi2.2 (by have := kp.q1; omega) (by omega) (u2.below h) x
     have ht12 : ((2 ^ (max Q.1 0).toNat : Nat) : Int) ≤ ((2 ^ (min Q.2 63).toNat : Nat) : Int) := Int.ofNat_le.2 (Nat.pow_le_pow_right (by omega) (by omega))
     have hj : ivJ (opE up P.1 ((2 ^ (max Q.1 0).toNat : Nat) : Int), opE up P.2 ((2 ^ (max Q.1 0).toNat : Nat) : Int)) (opE up P.1 ((2 ^ (min Q.2 63).toNat : Nat) : Int), opE up P.2 ((2 ^ (min Q.2 63).toNat : Nat) : Int)) = shP up P Q := by
      have e := Hv.out
      cases up
      · exact shr_hull (T := (((2 ^ (max Q.1 0).toNat : Nat) : Int), ((2 ^ (min Q.2 63).toNat : Nat) : Int))) (gp.up (by omega)) t1.1 ht12
      · exact shl_hull (T := (((2 ^ (max Q.1 0).toNat : Nat) : Int), ((2 ^ (min Q.2 63).toNat : Nat) : Int))) (gp.up (by omega)) ⟨.inr (.inr (by have := wN_mono (show 1 ≤ 32 by omega); dsimp only; omega)), .inr (.inr (by have := wN_mono (show 1 ≤ 32 by omega); dsimp only; omega)), ht12, by dsimp only; omega, by dsimp only; omega⟩ t1.1
     have EI := hid (fun (W : World) (Z1 Z2 Z3 Z4 : Zone) (E F G H : Option Addr) (e f g h : Nat) (o1 : U64s W Z1 E e i1.l0) (o2 : U64s W Z2 F f i1.l1) (o3 : U64s W Z3 G g i2.l0) (o4 : U64s W Z4 H h i2.l1) => r16either_v hi1 (opI_ok up gp (by omega) t1) (by omega) hi2 (opI_ok up gp (by omega) t2) (by omega) (by rw [hj]; exact hr) o1 o2 o3 o4)
     clear x0 k1 lk0 y0 k2 lk1 t1 t2 lx ly ht12 hj k3 k4 k5 hk
     rw [Hv.out] at U1 U2 U3 U4
     simp only [cond_true, cond_false] at U1 U2 U3 U4
     replace U1 := hid U1
     replace U2 := hid U2
     replace U3 := hid U3
     replace U4 := hid U4
     clear hr hi1 hi2 nx ny hp gp HU HP_ GO u1 u2 u3 u4
     obtain ⟨c0, c1, c2, c3, c4, c5, _, _, _, _, _, _, _⟩ := id BXk.out.box
     go_wp2_with fail
     refine (PX.out _ _ _ _ BXk.out.u0).mono ?_
     rintro e w3 ⟨E5, e5, rfl, x9, hc⟩
     clear c0 c1 c2 c3 c4 c5
     go_upto_region 8 with fail
     obtain ⟨Hal, Mx⟩ := hid2 (from_ hc ((Below.refl w3.heap.size w3).alloc (Nat.le_refl _) (.cells #[.bool xs, .slice E5 xl.length e5] 25))) (BM.new (ty := 25) (s := xs) x9)
     obtain ⟨gMx, hgMx⟩ : ∃ g, g = w3.heap.size := ⟨_, rfl⟩
     rw [← hgMx] at Mx
     have NRMx := hid (show w.heap.size + 2 ≠ gMx by have := HR.out.lt; have := hc.size; omega)
     have hc := Hal.out
     replace HN := hid (HN.out.below HR.out.lt hc)
     replace HA := hid (HA.out.below hc)
     replace HBb := hid (HBb.out.below hc)
     replace HR := hid (HR.out.below hc)
     replace HB := hid (from_ HB.out hc)
     replace BXk := hid (BXk.out.below hc)
     clear hc x9 Hal
     generalize hV : w3.alloc (.cells #[.bool xs, .slice E5 xl.length e5] 25) = V at *
     try simp only [← hgMx]
     clear hV hgMx
     obtain ⟨WMx, hren⟩ : ∃ W, W = V := ⟨_, rfl⟩
     subst hren
     have c0 := BXk.out.box.all
     go_wp2_with fail
     refine (PY.out _ _ _ _ BXk.out.u1).mono ?_
     rintro e w3 ⟨E6, e6, rfl, x9, hc⟩
     clear c0
     go_upto_region 9 with fail
     obtain ⟨Hal, My⟩ := hid2 (from_ hc ((Below.refl w3.heap.size w3).alloc (Nat.le_refl _) (.cells #[.bool ys, .slice E6 yl.length e6] 25))) (BM.new (ty := 25) (s := ys) x9)
     obtain ⟨gMy, hgMy⟩ : ∃ g, g = w3.heap.size := ⟨_, rfl⟩
     rw [← hgMy] at My
     have NRMy := hid (show w.heap.size + 2 ≠ gMy by have := HR.out.lt; have := hc.size; omega)
     have hc := Hal.out
     replace HN := hid (HN.out.below HR.out.lt hc)
     replace HA := hid (HA.out.below hc)
     replace HBb := hid (HBb.out.below hc)
     replace HR := hid (HR.out.below hc)
     replace HB := hid (from_ HB.out hc)
     replace BXk := hid (BXk.out.below hc)
     replace Mx := hid (Mx.out.below hc)
     clear hc x9 Hal
     generalize hV : w3.alloc (.cells #[.bool ys, .slice E6 yl.length e6] 25) = V at *
     try simp only [← hgMy]
     clear hV hgMy
     obtain ⟨WMy, hren⟩ : ∃ W, W = V := ⟨_, rfl⟩
     subst hren
     have hs := And.intro HA.out.all (And.intro (And.intro Mx.out.box.c0 Mx.out.box.c1) (And.intro My.out.box.c0 My.out.box.c1))
     replace hs := v10_keep hs bdr_
     have Hc := hid (Below.refl WMy.heap.size WMy).drew
     replace Mx := hid (Mx.out.below bdr_)
     replace My := hid (My.out.below bdr_)
     have N0 := hid (show w.heap.size + 2 ≠ w.heap.size by omega)
     go_cut [5] (fun s5 wx => ∃ (A : Option Addr) (a : Nat) (B : Option Addr) (b : Nat), s5 = .int .i64 0 ∧ BX wx (w.heap.size + 2) r A a B b ∧ Below w.heap.size w wx)
     case first =>
      first | go_region_held3 (fun w' => (C6 w' w.heap.size (.bool p.n0) (.bool p.s0) (.slice A p.l0.length a) (.bool p.n1) (.bool p.s1) (.slice B p.l1.length b)) ∧ (w'.cell? ⟨gMx, 0, none⟩ = some (.bool xs) ∧ w'.cell? ⟨gMx, 1, none⟩ = some (.slice E5 xl.length e5)) ∧ w'.cell? ⟨gMy, 0, none⟩ = some (.bool ys) ∧ w'.cell? ⟨gMy, 1, none⟩ = some (.slice E6 yl.length e6))
       (first | with_reducible exact hs | (with_reducible apply v10_st6 rfl N0.out NRMx.out NRMy.out; with_reducible exact hs) | (with_reducible apply v10_dr rfl; with_reducible exact hs))
       (first
        | ((first | go_at_call 52 | go_at_call 54); (first | (with_reducible refine (U1.out _ _ _ _ (from_ HB.out Hc.out) Mx.out.u).mono ?_; rintro e w5 ⟨D1, d1, rfl, o1, hc2⟩) | (with_reducible refine (U2.out _ _ _ _ (from_ HB.out Hc.out) Mx.out.u).mono ?_; rintro e w5 ⟨D2, d2, rfl, o2, hc2⟩) | (with_reducible refine (U3.out _ _ _ _ (from_ HB.out Hc.out) My.out.u).mono ?_; rintro e w5 ⟨D3, d3, rfl, o3, hc2⟩) | (with_reducible refine (U4.out _ _ _ _ (from_ HB.out Hc.out) My.out.u).mono ?_; rintro e w5 ⟨D4, d4, rfl, o4, hc2⟩)); replace hs := v10_keep hs hc2; replace Hc := hid (from_ Hc.out hc2); replace Mx := hid (Mx.out.below hc2); replace My := hid (My.out.below hc2); (try replace o1 := o1.below hc2); (try replace o2 := o2.below hc2); (try replace o3 := o3.below hc2); clear hc2)
        | (go_at_call 51; with_reducible refine (EI.out _ _ _ _ _ _ _ _ _ _ _ _ _ o1 o2 o3 o4).mono ?_; rintro e w55 ⟨D5, d5, D6, d6, rfl, o5, o6, hc2⟩; replace hs := v10_keep hs hc2; replace Hc := hid (from_ Hc.out hc2); replace HN := hid (HN.out.below HR.out.lt Hc.out); replace HR := hid (HR.out.below Hc.out); have g0 := HR.out.cf)) | fail
      all_goals
       have BF := hid ((BZ.mk HR.out HN.out).own (q := r) o5 o6)
       have HbF := hid (HR.out.put (w := w) (from_ HB.out Hc.out) (by omega) (.bool r.n0) (.bool r.s0) (.slice D5 r.l0.length d5) (.bool r.n1) (.bool r.s1) (.slice D6 r.l1.length d6)).bel
       clear hs o1 o2 o3 o4 o5 o6
       go_wp2_with fail
       go_meet
       exact ⟨_, _, _, _, rfl, BF.out, HbF.out⟩
     case rest =>
      obtain ⟨Y0, y0, Y1, y1, rfl, hF, hP⟩ := hcut
      obtain ⟨HF2, HP2⟩ := hid2 hF hP
      clear hF hP hs
      refine (‹∀ (a : Act) (w : World), Code.wp Tryz.prog Code.ret _ a w → _›) _ _ ?_
      refine wp_ret ?_
      change bodyPost _ _ _ _ _ _
      refine bodyPost_ret (res_itv2 rfl _ (w.heap.size + 2) rfl HF2.out.box) rfl ?_
      exact ⟨_, _, _, _, rfl, HF2.out.u0, HF2.out.u1, HP2.out⟩
theorem pair_add (q1 : p.l0.length ≤ 4) (q2 : p.l1.length ≤ 4) (q3 : q.l0.length ≤ 4) (q4 : q.l1.length ≤ 4) (m0 : Small p.l0) (m1 : Small p.l1) (m2 : Small q.l0) (m3 : Small q.l1) : ∃ (r : Iv) (E : Int), (∀ (w : World) (Z1 Z2 Z3 Z4 : Zone) (A B C D : Option Addr) (a b c d : Nat), U64s w Z1 A a p.l0 → U64s w Z2 B b p.l1 → U64s w Z3 C c q.l0 → U64s w Z4 D d q.l1 → Calls Tryz.prog 6 #[.agg #[.bool p.n0, .bool p.s0, .slice A p.l0.length a, .bool p.n1, .bool p.s1, .slice B p.l1.length b], .agg #[.bool q.n0, .bool q.s0, .slice C q.l0.length c, .bool q.n1, .bool q.s1, .slice D q.l1.length d]] w fun e w' => ∃ rA ra rB rb, e = .returned (.tuple #[.agg #[.bool r.n0, .bool r.s0, .slice rA r.l0.length ra, .bool r.n1, .bool r.s1, .slice rB r.l1.length rb], .int .i64 E]) ∧ U64s w' (new w.heap.size) rA ra r.l0 ∧ U64s w' (new w.heap.size) rB rb r.l1 ∧ Below w.heap.size w w') ∧ (∀ (w : World) (Z1 Z2 Z3 Z4 : Zone) (A B C D : Option Addr) (a b c d : Nat), U64s w Z1 A a p.l0 → U64s w Z2 B b p.l1 → U64s w Z3 C c q.l0 → U64s w Z4 D d q.l1 → Calls Tryz.prog 7 #[.agg #[.bool p.n0, .bool p.s0, .slice A p.l0.length a, .bool p.n1, .bool p.s1, .slice B p.l1.length b], .agg #[.bool q.n0, .bool q.s0, .slice C q.l0.length c, .bool q.n1, .bool q.s1, .slice D q.l1.length d]] w fun e w' => ∃ rA ra rB rb, e = .returned (.tuple #[.agg #[.bool r.n0, .bool r.s0, .slice rA r.l0.length ra, .bool r.n1, .bool r.s1, .slice rB r.l1.length rb], .int .i64 E]) ∧ U64s w' old rA ra r.l0 ∧ U64s w' old rB rb r.l1 ∧ Below w.heap.size w w') := by
 by_cases h : p.ok = true ∧ q.ok = true
 · obtain ⟨wp, gp⟩ := itwJ_of h.1 m0 m1 q1 q2 (by omega)
   obtain ⟨wq, gq⟩ := itwJ_of h.2 m2 m3 q3 q4 (by omega)
   obtain ⟨r, hr⟩ : ∃ r, IvW (ivA (p.lo, p.hi) (q.lo, q.hi)) r := ⟨_, IvW.mk _⟩
   exact ⟨r, 0, fun w Z1 Z2 Z3 Z4 A B C D a b c d u1 u2 u3 u4 => iadd_w wp wq hr gp gq (by omega) u1 u2 u3 u4, fun w Z1 Z2 Z3 Z4 A B C D a b c d u1 u2 u3 u4 => r16add_good u1 u2 u3 u4 (by omega) (by omega) (by omega) (by omega) h.1 h.2 wp gp wq gq (by omega) hr⟩
 · exact ⟨zeroJ, 8, fun w Z1 Z2 Z3 Z4 A B C D a b c d u1 u2 u3 u4 => noI (iall_bad (F := 6) (by simp) u1 u2 u3 u4 (fun a b => h ⟨a, b⟩) (by omega) (by omega) (by omega) (by omega)), fun w Z1 Z2 Z3 Z4 A B C D a b c d u1 u2 u3 u4 => noI (r16all_bad (F := 7) (by simp) u1 u2 u3 u4 (by omega) (by omega) (by omega) (by omega) h)⟩
theorem pair_mul (q1 : p.l0.length ≤ 4) (q2 : p.l1.length ≤ 4) (q3 : q.l0.length ≤ 4) (q4 : q.l1.length ≤ 4) (m0 : Small p.l0) (m1 : Small p.l1) (m2 : Small q.l0) (m3 : Small q.l1) : ∃ (r : Iv) (E : Int), (∀ (w : World) (Z1 Z2 Z3 Z4 : Zone) (A B C D : Option Addr) (a b c d : Nat), U64s w Z1 A a p.l0 → U64s w Z2 B b p.l1 → U64s w Z3 C c q.l0 → U64s w Z4 D d q.l1 → Calls Tryz.prog 8 #[.agg #[.bool p.n0, .bool p.s0, .slice A p.l0.length a, .bool p.n1, .bool p.s1, .slice B p.l1.length b], .agg #[.bool q.n0, .bool q.s0, .slice C q.l0.length c, .bool q.n1, .bool q.s1, .slice D q.l1.length d]] w fun e w' => ∃ rA ra rB rb, e = .returned (.tuple #[.agg #[.bool r.n0, .bool r.s0, .slice rA r.l0.length ra, .bool r.n1, .bool r.s1, .slice rB r.l1.length rb], .int .i64 E]) ∧ U64s w' (new w.heap.size) rA ra r.l0 ∧ U64s w' (new w.heap.size) rB rb r.l1 ∧ Below w.heap.size w w') ∧ (∀ (w : World) (Z1 Z2 Z3 Z4 : Zone) (A B C D : Option Addr) (a b c d : Nat), U64s w Z1 A a p.l0 → U64s w Z2 B b p.l1 → U64s w Z3 C c q.l0 → U64s w Z4 D d q.l1 → Calls Tryz.prog 9 #[.agg #[.bool p.n0, .bool p.s0, .slice A p.l0.length a, .bool p.n1, .bool p.s1, .slice B p.l1.length b], .agg #[.bool q.n0, .bool q.s0, .slice C q.l0.length c, .bool q.n1, .bool q.s1, .slice D q.l1.length d]] w fun e w' => ∃ rA ra rB rb, e = .returned (.tuple #[.agg #[.bool r.n0, .bool r.s0, .slice rA r.l0.length ra, .bool r.n1, .bool r.s1, .slice rB r.l1.length rb], .int .i64 E]) ∧ U64s w' old rA ra r.l0 ∧ U64s w' old rB rb r.l1 ∧ Below w.heap.size w w') := by
 by_cases h : p.ok = true ∧ q.ok = true
 · obtain ⟨wp, gp⟩ := itwJ_of h.1 m0 m1 q1 q2 (by omega)
   obtain ⟨wq, gq⟩ := itwJ_of h.2 m2 m3 q3 q4 (by omega)
   obtain ⟨r, hr⟩ : ∃ r, IvW (ivM (p.lo, p.hi) (q.lo, q.hi)) r := ⟨_, IvW.mk _⟩
   exact ⟨r, 0, fun w Z1 Z2 Z3 Z4 A B C D a b c d u1 u2 u3 u4 => imul_w wp wq hr gp gq (by omega) (by omega) u1 u2 u3 u4, fun w Z1 Z2 Z3 Z4 A B C D a b c d u1 u2 u3 u4 => r16mul_good u1 u2 u3 u4 (by omega) (by omega) (by omega) (by omega) h.1 h.2 wp gp wq gq (by omega) (by omega) hr⟩
 · exact ⟨zeroJ, 8, fun w Z1 Z2 Z3 Z4 A B C D a b c d u1 u2 u3 u4 => noI (iall_bad (F := 8) (by simp) u1 u2 u3 u4 (fun a b => h ⟨a, b⟩) (by omega) (by omega) (by omega) (by omega)), fun w Z1 Z2 Z3 Z4 A B C D a b c d u1 u2 u3 u4 => noI (r16all_bad (F := 9) (by simp) u1 u2 u3 u4 (by omega) (by omega) (by omega) (by omega) h)⟩
theorem pair_div (q1 : p.l0.length ≤ 4) (q2 : p.l1.length ≤ 4) (q3 : q.l0.length ≤ 4) (q4 : q.l1.length ≤ 4) (m0 : Small p.l0) (m1 : Small p.l1) (m2 : Small q.l0) (m3 : Small q.l1) : ∃ (r : Iv) (E : Int), (∀ (w : World) (Z1 Z2 Z3 Z4 : Zone) (A B C D : Option Addr) (a b c d : Nat), U64s w Z1 A a p.l0 → U64s w Z2 B b p.l1 → U64s w Z3 C c q.l0 → U64s w Z4 D d q.l1 → Calls Tryz.prog 10 #[.agg #[.bool p.n0, .bool p.s0, .slice A p.l0.length a, .bool p.n1, .bool p.s1, .slice B p.l1.length b], .agg #[.bool q.n0, .bool q.s0, .slice C q.l0.length c, .bool q.n1, .bool q.s1, .slice D q.l1.length d]] w fun e w' => ∃ rA ra rB rb, e = .returned (.tuple #[.agg #[.bool r.n0, .bool r.s0, .slice rA r.l0.length ra, .bool r.n1, .bool r.s1, .slice rB r.l1.length rb], .int .i64 E]) ∧ U64s w' (new w.heap.size) rA ra r.l0 ∧ U64s w' (new w.heap.size) rB rb r.l1 ∧ Below w.heap.size w w') ∧ (∀ (w : World) (Z1 Z2 Z3 Z4 : Zone) (A B C D : Option Addr) (a b c d : Nat), U64s w Z1 A a p.l0 → U64s w Z2 B b p.l1 → U64s w Z3 C c q.l0 → U64s w Z4 D d q.l1 → Calls Tryz.prog 11 #[.agg #[.bool p.n0, .bool p.s0, .slice A p.l0.length a, .bool p.n1, .bool p.s1, .slice B p.l1.length b], .agg #[.bool q.n0, .bool q.s0, .slice C q.l0.length c, .bool q.n1, .bool q.s1, .slice D q.l1.length d]] w fun e w' => ∃ rA ra rB rb, e = .returned (.tuple #[.agg #[.bool r.n0, .bool r.s0, .slice rA r.l0.length ra, .bool r.n1, .bool r.s1, .slice rB r.l1.length rb], .int .i64 E]) ∧ U64s w' old rA ra r.l0 ∧ U64s w' old rB rb r.l1 ∧ Below w.heap.size w w') := by
 by_cases h : p.ok = true ∧ q.ok = true
 · obtain ⟨wp, gp⟩ := itwJ_of h.1 m0 m1 q1 q2 (by omega)
   obtain ⟨wq, gq⟩ := itwJ_of h.2 m2 m3 q3 q4 (by omega)
   obtain ⟨r, hr⟩ : ∃ r, IvW (ivD (p.lo, p.hi) (q.lo, q.hi)) r := ⟨_, IvW.mk _⟩
   by_cases hz : partsP (q.lo, q.hi) = []
   · exact ⟨zeroJ, 30, fun w Z1 Z2 Z3 Z4 A B C D a b c d u1 u2 u3 u4 => noI (idiv_zero wp (gp.up (by omega)) wq (gq.up (by omega)) u1 u2 u3 u4 hz), fun w Z1 Z2 Z3 Z4 A B C D a b c d u1 u2 u3 u4 => noI (r16div_zero u1 u2 u3 u4 (by omega) (by omega) (by omega) (by omega) h.1 h.2 wp gp wq gq (by omega) (by omega) hz)⟩
   · exact ⟨r, 0, fun w Z1 Z2 Z3 Z4 A B C D a b c d u1 u2 u3 u4 => idiv_w wp (gp.up (by omega)) wq (gq.up (by omega)) u1 u2 u3 u4 hz hr, fun w Z1 Z2 Z3 Z4 A B C D a b c d u1 u2 u3 u4 => r16div_good u1 u2 u3 u4 (by omega) (by omega) (by omega) (by omega) h.1 h.2 wp gp wq gq (by omega) (by omega) hz hr⟩
 · exact ⟨zeroJ, 8, fun w Z1 Z2 Z3 Z4 A B C D a b c d u1 u2 u3 u4 => noI (iDiv_bad u1 u2 u3 u4 (fun a b => h ⟨a, b⟩) (by omega) (by omega) (by omega) (by omega)), fun w Z1 Z2 Z3 Z4 A B C D a b c d u1 u2 u3 u4 => noI (r16all_bad (F := 11) (by simp) u1 u2 u3 u4 (by omega) (by omega) (by omega) (by omega) h)⟩
theorem pair_mod (q1 : p.l0.length ≤ 4) (q2 : p.l1.length ≤ 4) (q3 : q.l0.length ≤ 4) (q4 : q.l1.length ≤ 4) (m0 : Small p.l0) (m1 : Small p.l1) (m2 : Small q.l0) (m3 : Small q.l1) : ∃ (r : Iv) (E : Int), (∀ (w : World) (Z1 Z2 Z3 Z4 : Zone) (A B C D : Option Addr) (a b c d : Nat), U64s w Z1 A a p.l0 → U64s w Z2 B b p.l1 → U64s w Z3 C c q.l0 → U64s w Z4 D d q.l1 → Calls Tryz.prog 12 #[.agg #[.bool p.n0, .bool p.s0, .slice A p.l0.length a, .bool p.n1, .bool p.s1, .slice B p.l1.length b], .agg #[.bool q.n0, .bool q.s0, .slice C q.l0.length c, .bool q.n1, .bool q.s1, .slice D q.l1.length d]] w fun e w' => ∃ rA ra rB rb, e = .returned (.tuple #[.agg #[.bool r.n0, .bool r.s0, .slice rA r.l0.length ra, .bool r.n1, .bool r.s1, .slice rB r.l1.length rb], .int .i64 E]) ∧ U64s w' (new w.heap.size) rA ra r.l0 ∧ U64s w' (new w.heap.size) rB rb r.l1 ∧ Below w.heap.size w w') ∧ (∀ (w : World) (Z1 Z2 Z3 Z4 : Zone) (A B C D : Option Addr) (a b c d : Nat), U64s w Z1 A a p.l0 → U64s w Z2 B b p.l1 → U64s w Z3 C c q.l0 → U64s w Z4 D d q.l1 → Calls Tryz.prog 13 #[.agg #[.bool p.n0, .bool p.s0, .slice A p.l0.length a, .bool p.n1, .bool p.s1, .slice B p.l1.length b], .agg #[.bool q.n0, .bool q.s0, .slice C q.l0.length c, .bool q.n1, .bool q.s1, .slice D q.l1.length d]] w fun e w' => ∃ rA ra rB rb, e = .returned (.tuple #[.agg #[.bool r.n0, .bool r.s0, .slice rA r.l0.length ra, .bool r.n1, .bool r.s1, .slice rB r.l1.length rb], .int .i64 E]) ∧ U64s w' old rA ra r.l0 ∧ U64s w' old rB rb r.l1 ∧ Below w.heap.size w w') := by
 by_cases h : p.ok = true ∧ q.ok = true
 · obtain ⟨wp, gp⟩ := itwJ_of h.1 m0 m1 q1 q2 (by omega)
   obtain ⟨wq, gq⟩ := itwJ_of h.2 m2 m3 q3 q4 (by omega)
   obtain ⟨r, hr⟩ : ∃ r, IvW (modP (p.lo, p.hi) (q.lo, q.hi)) r := ⟨_, IvW.mk _⟩
   have hpn := parts_nil (P := (q.lo, q.hi)) gq.le
   by_cases hz : partsP (q.lo, q.hi) = []
   · exact ⟨zeroJ, 30, fun w Z1 Z2 Z3 Z4 A B C D a b c d u1 u2 u3 u4 => noI (imod_zero wp (gp.up (by omega)) wq (gq.up (by omega)) u1 u2 u3 u4 hz), fun w Z1 Z2 Z3 Z4 A B C D a b c d u1 u2 u3 u4 => noI (r16mod_zero u1 u2 u3 u4 (by omega) (by omega) (by omega) (by omega) h.1 h.2 wp gp wq gq (by omega) (by omega) (hpn.1 hz))⟩
   · exact ⟨r, 0, fun w Z1 Z2 Z3 Z4 A B C D a b c d u1 u2 u3 u4 => imod_w wp (gp.up (by omega)) wq (gq.up (by omega)) u1 u2 u3 u4 hz hr, fun w Z1 Z2 Z3 Z4 A B C D a b c d u1 u2 u3 u4 => r16mod_good u1 u2 u3 u4 (by omega) (by omega) (by omega) (by omega) h.1 h.2 wp gp wq gq (by omega) (by omega) (fun h => hz (hpn.2 h)) hr⟩
 · exact ⟨zeroJ, 8, fun w Z1 Z2 Z3 Z4 A B C D a b c d u1 u2 u3 u4 => noI (iall_bad (F := 12) (by simp) u1 u2 u3 u4 (fun a b => h ⟨a, b⟩) (by omega) (by omega) (by omega) (by omega)), fun w Z1 Z2 Z3 Z4 A B C D a b c d u1 u2 u3 u4 => noI (r16all_bad (F := 13) (by simp) u1 u2 u3 u4 (by omega) (by omega) (by omega) (by omega) h)⟩
theorem pair_shl (q1 : p.l0.length ≤ 4) (q2 : p.l1.length ≤ 4) (q3 : q.l0.length ≤ 4) (q4 : q.l1.length ≤ 4) (m0 : Small p.l0) (m1 : Small p.l1) (m2 : Small q.l0) (m3 : Small q.l1) : ∃ (r : Iv) (E : Int), (∀ (w : World) (Z1 Z2 Z3 Z4 : Zone) (A B C D : Option Addr) (a b c d : Nat), U64s w Z1 A a p.l0 → U64s w Z2 B b p.l1 → U64s w Z3 C c q.l0 → U64s w Z4 D d q.l1 → Calls Tryz.prog 14 #[.agg #[.bool p.n0, .bool p.s0, .slice A p.l0.length a, .bool p.n1, .bool p.s1, .slice B p.l1.length b], .agg #[.bool q.n0, .bool q.s0, .slice C q.l0.length c, .bool q.n1, .bool q.s1, .slice D q.l1.length d]] w fun e w' => ∃ rA ra rB rb, e = .returned (.tuple #[.agg #[.bool r.n0, .bool r.s0, .slice rA r.l0.length ra, .bool r.n1, .bool r.s1, .slice rB r.l1.length rb], .int .i64 E]) ∧ U64s w' (new w.heap.size) rA ra r.l0 ∧ U64s w' (new w.heap.size) rB rb r.l1 ∧ Below w.heap.size w w') ∧ (∀ (w : World) (Z1 Z2 Z3 Z4 : Zone) (A B C D : Option Addr) (a b c d : Nat), U64s w Z1 A a p.l0 → U64s w Z2 B b p.l1 → U64s w Z3 C c q.l0 → U64s w Z4 D d q.l1 → Calls Tryz.prog 15 #[.agg #[.bool p.n0, .bool p.s0, .slice A p.l0.length a, .bool p.n1, .bool p.s1, .slice B p.l1.length b], .agg #[.bool q.n0, .bool q.s0, .slice C q.l0.length c, .bool q.n1, .bool q.s1, .slice D q.l1.length d]] w fun e w' => ∃ rA ra rB rb, e = .returned (.tuple #[.agg #[.bool r.n0, .bool r.s0, .slice rA r.l0.length ra, .bool r.n1, .bool r.s1, .slice rB r.l1.length rb], .int .i64 E]) ∧ U64s w' old rA ra r.l0 ∧ U64s w' old rB rb r.l1 ∧ Below w.heap.size w w') := by
 by_cases h : p.ok = true ∧ q.ok = true
 · obtain ⟨wp, gp⟩ := itwJ_of h.1 m0 m1 q1 q2 (by omega)
   obtain ⟨wq, gq⟩ := itwJ_of h.2 m2 m3 q3 q4 (by omega)
   obtain ⟨r, hr⟩ : ∃ r, IvW (shlP (p.lo, p.hi) (q.lo, q.hi)) r := ⟨_, IvW.mk _⟩
   by_cases hle : (shK (q.lo, q.hi)).1 ≤ (shK (q.lo, q.hi)).2
   · exact ⟨r, 0, fun w Z1 Z2 Z3 Z4 A B C D a b c d u1 u2 u3 u4 => ishl_w wp (gp.up (by omega)) wq (gq.up (by omega)) u1 u2 u3 u4 hle hr, fun w Z1 Z2 Z3 Z4 A B C D a b c d u1 u2 u3 u4 => r16sh_w true true u1 u2 u3 u4 (by omega) (by omega) (by omega) (by omega) h.1 h.2 wp gp wq gq (by omega) (by omega) (decide_eq_true hle) hr⟩
   · exact ⟨zeroJ, 2, fun w Z1 Z2 Z3 Z4 A B C D a b c d u1 u2 u3 u4 => noI (ishl_none wp (gp.up (by omega)) wq (gq.up (by omega)) u1 u2 u3 u4 hle), fun w Z1 Z2 Z3 Z4 A B C D a b c d u1 u2 u3 u4 => r16sh_w true false (r := zeroJ) u1 u2 u3 u4 (by omega) (by omega) (by omega) (by omega) h.1 h.2 wp gp wq gq (by omega) (by omega) (decide_eq_false hle) hzw⟩
 · exact ⟨zeroJ, 8, fun w Z1 Z2 Z3 Z4 A B C D a b c d u1 u2 u3 u4 => noI (iShs_bad (F := 14) (by simp) u1 u2 u3 u4 (fun a b => h ⟨a, b⟩) (by omega) (by omega) (by omega) (by omega)), fun w Z1 Z2 Z3 Z4 A B C D a b c d u1 u2 u3 u4 => noI (r16all_bad (F := 15) (by simp) u1 u2 u3 u4 (by omega) (by omega) (by omega) (by omega) h)⟩
theorem pair_shr (q1 : p.l0.length ≤ 4) (q2 : p.l1.length ≤ 4) (q3 : q.l0.length ≤ 4) (q4 : q.l1.length ≤ 4) (m0 : Small p.l0) (m1 : Small p.l1) (m2 : Small q.l0) (m3 : Small q.l1) : ∃ (r : Iv) (E : Int), (∀ (w : World) (Z1 Z2 Z3 Z4 : Zone) (A B C D : Option Addr) (a b c d : Nat), U64s w Z1 A a p.l0 → U64s w Z2 B b p.l1 → U64s w Z3 C c q.l0 → U64s w Z4 D d q.l1 → Calls Tryz.prog 16 #[.agg #[.bool p.n0, .bool p.s0, .slice A p.l0.length a, .bool p.n1, .bool p.s1, .slice B p.l1.length b], .agg #[.bool q.n0, .bool q.s0, .slice C q.l0.length c, .bool q.n1, .bool q.s1, .slice D q.l1.length d]] w fun e w' => ∃ rA ra rB rb, e = .returned (.tuple #[.agg #[.bool r.n0, .bool r.s0, .slice rA r.l0.length ra, .bool r.n1, .bool r.s1, .slice rB r.l1.length rb], .int .i64 E]) ∧ U64s w' (new w.heap.size) rA ra r.l0 ∧ U64s w' (new w.heap.size) rB rb r.l1 ∧ Below w.heap.size w w') ∧ (∀ (w : World) (Z1 Z2 Z3 Z4 : Zone) (A B C D : Option Addr) (a b c d : Nat), U64s w Z1 A a p.l0 → U64s w Z2 B b p.l1 → U64s w Z3 C c q.l0 → U64s w Z4 D d q.l1 → Calls Tryz.prog 17 #[.agg #[.bool p.n0, .bool p.s0, .slice A p.l0.length a, .bool p.n1, .bool p.s1, .slice B p.l1.length b], .agg #[.bool q.n0, .bool q.s0, .slice C q.l0.length c, .bool q.n1, .bool q.s1, .slice D q.l1.length d]] w fun e w' => ∃ rA ra rB rb, e = .returned (.tuple #[.agg #[.bool r.n0, .bool r.s0, .slice rA r.l0.length ra, .bool r.n1, .bool r.s1, .slice rB r.l1.length rb], .int .i64 E]) ∧ U64s w' old rA ra r.l0 ∧ U64s w' old rB rb r.l1 ∧ Below w.heap.size w w') := by
 by_cases h : p.ok = true ∧ q.ok = true
 · obtain ⟨wp, gp⟩ := itwJ_of h.1 m0 m1 q1 q2 (by omega)
   obtain ⟨wq, gq⟩ := itwJ_of h.2 m2 m3 q3 q4 (by omega)
   obtain ⟨r, hr⟩ : ∃ r, IvW (shrP (p.lo, p.hi) (q.lo, q.hi)) r := ⟨_, IvW.mk _⟩
   by_cases hle : (shK (q.lo, q.hi)).1 ≤ (shK (q.lo, q.hi)).2
   · exact ⟨r, 0, fun w Z1 Z2 Z3 Z4 A B C D a b c d u1 u2 u3 u4 => ishr_w wp (gp.up (by omega)) wq (gq.up (by omega)) u1 u2 u3 u4 hle hr, fun w Z1 Z2 Z3 Z4 A B C D a b c d u1 u2 u3 u4 => r16sh_w false true u1 u2 u3 u4 (by omega) (by omega) (by omega) (by omega) h.1 h.2 wp gp wq gq (by omega) (by omega) (decide_eq_true hle) hr⟩
   · exact ⟨zeroJ, 2, fun w Z1 Z2 Z3 Z4 A B C D a b c d u1 u2 u3 u4 => noI (ishr_none wp (gp.up (by omega)) wq (gq.up (by omega)) u1 u2 u3 u4 hle), fun w Z1 Z2 Z3 Z4 A B C D a b c d u1 u2 u3 u4 => r16sh_w false false (r := zeroJ) u1 u2 u3 u4 (by omega) (by omega) (by omega) (by omega) h.1 h.2 wp gp wq gq (by omega) (by omega) (decide_eq_false hle) hzw⟩
 · exact ⟨zeroJ, 8, fun w Z1 Z2 Z3 Z4 A B C D a b c d u1 u2 u3 u4 => noI (iShs_bad (F := 16) (by simp) u1 u2 u3 u4 (fun a b => h ⟨a, b⟩) (by omega) (by omega) (by omega) (by omega)), fun w Z1 Z2 Z3 Z4 A B C D a b c d u1 u2 u3 u4 => noI (r16all_bad (F := 17) (by simp) u1 u2 u3 u4 (by omega) (by omega) (by omega) (by omega) h)⟩
def Q2 (W : World) (B : Nat) (a0 a1 a2 a3 a4 a5 b0 b1 b2 b3 b4 b5 : Value) : Prop := Box6 W B a0 a1 a2 a3 a4 a5 ∧ Box6 W (B + 1) b0 b1 b2 b3 b4 b5
theorem Q2.new (w : World) (a0 a1 a2 a3 a4 a5 b0 b1 b2 b3 b4 b5 : Value) (t : TypeId) : Q2 ((w.alloc (.cells #[a0, a1, a2, a3, a4, a5] t)).alloc (.cells #[b0, b1, b2, b3, b4, b5] t)) w.heap.size a0 a1 a2 a3 a4 a5 b0 b1 b2 b3 b4 b5 ∧ Below w.heap.size w ((w.alloc (.cells #[a0, a1, a2, a3, a4, a5] t)).alloc (.cells #[b0, b1, b2, b3, b4, b5] t)) := by
 have k1 : Below w.heap.size w (w.alloc (.cells #[a0, a1, a2, a3, a4, a5] t)) := (Below.refl _ _).alloc (Nat.le_refl _) _
 have b0' := (Box6.new w a0 a1 a2 a3 a4 a5 t).alloc (.cells #[b0, b1, b2, b3, b4, b5] t)
 have b1' := Box6.new (w.alloc (.cells #[a0, a1, a2, a3, a4, a5] t)) b0 b1 b2 b3 b4 b5 t
 simp only [World.size_alloc] at b1'
 exact ⟨⟨b0', b1'⟩, k1.alloc k1.size _⟩
theorem Q2.below {B : Nat} (h : Q2 W B a0 a1 a2 a3 a4 a5 b0 b1 b2 b3 b4 b5) (hb : Below W.heap.size W V) : Q2 V B a0 a1 a2 a3 a4 a5 b0 b1 b2 b3 b4 b5 := ⟨h.1.below hb, h.2.below hb⟩
theorem Q2.cells {B : Nat} (h : Q2 W B a0 a1 a2 a3 a4 a5 b0 b1 b2 b3 b4 b5) : (C6 W B a0 a1 a2 a3 a4 a5) ∧ C6 W (B + 1) b0 b1 b2 b3 b4 b5 := ⟨h.1.all, h.2.all⟩
theorem BX.two {Z Y : Zone} {r : Iv} {t : TypeId} (hc : Below w.heap.size w W) (u : U64s W Z A a r.l0) (v : U64s W Y B b r.l1) : Hid (BX (W.alloc (.cells #[.bool r.n0, .bool r.s0, .slice A r.l0.length a, .bool r.n1, .bool r.s1, .slice B r.l1.length b] t)) W.heap.size r A a B b) ∧ Hid (Below w.heap.size w (W.alloc (.cells #[.bool r.n0, .bool r.s0, .slice A r.l0.length a, .bool r.n1, .bool r.s1, .slice B r.l1.length b] t))) := ⟨BX.new u v, from_ hc bal_⟩
end Go.Proofs.YthpngihjcphigaaGreat
