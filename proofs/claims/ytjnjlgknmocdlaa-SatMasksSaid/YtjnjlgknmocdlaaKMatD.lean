/-
  Rows: the document's product of two rows of numbers. No conditions but bounds on lengths.
-/
import Derived.Test.YtjnjlgknmocdlaaKVecP
import Derived.Test.YtjnjlgknmocdlaaKW5B
import Derived.Test.YtjnjlgknmocdlaaKW5C
namespace Go.Proofs.Ytjnjlgknmocdlaa
open Go.RowKit
set_option linter.unusedVariables false
set_option linter.unusedSimpArgs false

theorem Nm.enc {x : Int} {s : Bool} {l : List Nat} (h : Nm x s l) : okI s l = true ∧ zof s l = x := by
  obtain ⟨rfl, rfl⟩ := h
  refine ⟨?_, zof_z x⟩
  unfold okI
  rw [good_limbs]
  by_cases hx : x < 0
  · have : 0 < (limbs x.natAbs).length := len_pos.2 (by omega)
    simp [hx]
    intro h2
    rw [h2] at this
    simp at this
  · simp [hx]

theorem r5times_n {w : World} {Z1 Z2 : Zone} {x y z : Int} {s t r : Bool} {l k m : List Nat} {A B : Option Addr} {c d : Nat} (h1 : Nm x s l) (h2 : Nm y t k) (h3 : Nm z r m) (hz : x * y = z) (hl : l.length ≤ 90000) (hl2 : k.length ≤ 90000) (u1 : U64s w Z1 A c l) (u2 : U64s w Z2 B d k) :
    Calls Try.prog 121 #[.agg #[.bool s, .slice A l.length c], .agg #[.bool t, .slice B k.length d]] w fun e w' => ∃ Av cv, e = .returned (.agg #[.bool r, .slice Av m.length cv]) ∧ U64s w' (new w.heap.size) Av cv m ∧ Below w.heap.size w w' := by
  refine (r5times_good (s := s) (l := l) (t := t) (k := k) ⟨_, rfl, A, c, rfl, u1⟩ ⟨_, rfl, B, d, rfl, u2⟩ h1.enc.1 h2.enc.1 hl hl2).mono ?_
  rintro e w' ⟨v, rfl, hv, hb⟩
  rw [h1.enc.2, h2.enc.2, hz] at hv
  obtain ⟨Av, cv, rfl, hu⟩ := h3.of hv
  exact ⟨Av, cv, rfl, hu, hb⟩
theorem r5sum_n {w : World} {Z1 Z2 : Zone} {x y z : Int} {s t r : Bool} {l k m : List Nat} {A B : Option Addr} {c d : Nat} (h1 : Nm x s l) (h2 : Nm y t k) (h3 : Nm z r m) (hz : x + y = z) (hl : l.length ≤ 10000) (hl2 : k.length ≤ 10000) (u1 : U64s w Z1 A c l) (u2 : U64s w Z2 B d k) :
    Calls Try.prog 120 #[.agg #[.bool s, .slice A l.length c], .agg #[.bool t, .slice B k.length d]] w fun e w' => ∃ Av cv, e = .returned (.agg #[.bool r, .slice Av m.length cv]) ∧ U64s w' (new w.heap.size) Av cv m ∧ Below w.heap.size w w' := by
  refine (r5sum_good (h1.isZ u1) (h2.isZ u2) (by rw [← h1.len]; exact hl) (by rw [← h2.len]; exact hl2)).mono ?_
  rintro e w' ⟨v, rfl, hv, hb⟩
  rw [hz] at hv
  obtain ⟨Av, cv, rfl, hu⟩ := h3.of hv
  exact ⟨Av, cv, rfl, hu, hb⟩
theorem r5signed_n {w : World} {Z1 : Zone} {x : Int} {s : Bool} {l : List Nat} {A : Option Addr} {c : Nat} {g : Int} (h1 : Nm x s l) (hg : sgn x = g) (u1 : U64s w Z1 A c l) :
    Calls Try.prog 74 #[.agg #[.bool s, .slice A l.length c]] w fun e w' => e = .returned (.int .i64 g) ∧ Below w.heap.size w w' := by
  subst hg
  exact r5signed_good (h1.isZ u1)

set_option maxRecDepth 100000 in
set_option maxHeartbeats 4000000 in
theorem r7product_n {w : World} {Z Y : Zone} {A B : Option Addr} {c d K : Nat} {ps qs : List (Bool × List Nat)} {xs ys : List Int} {r : Bool} {m : List Nat} (ha : VecAt w Z A c ps) (hb : VecAt w Y B d qs) (hx : NmV xs ps) (hy : NmV ys qs) (hlen : ps.length = qs.length) (hl : ps.length ≤ 64) (hK1 : ∀ p ∈ ps, p.2.length ≤ K) (hK2 : ∀ p ∈ qs, p.2.length ≤ K) (hK : K ≤ 4000) (h3 : Nm (dotZ xs ys) r m) :
    Calls Try.prog 75 #[.slice A ps.length c, .slice B qs.length d] w fun e w' => ∃ Av cv, e = .returned (.agg #[.bool r, .slice Av m.length cv]) ∧ U64s w' (new w.heap.size) Av cv m ∧ Below w.heap.size w w' := by
  obtain ⟨bT, bR, hB0⟩ := boxes2 w (.bool false) (.slice none 0 0) (.bool false) (.slice none 0 0) 25
  have Hal := Lib.hid hB0
  obtain ⟨n, hn⟩ : ∃ n, n = ps.length := ⟨_, rfl⟩
  have hn2 : qs.length = n := by omega
  have hxl : xs.length = n := by rw [hx.len]; exact hn.symm
  have hyl : ys.length = n := by rw [hy.len]; exact hn2
  rw [← hn] at hl ⊢
  rw [hn2]
  have Hn := Lib.hid (show n = ps.length ∧ qs.length = n ∧ xs.length = n ∧ ys.length = n from ⟨hn, hn2, hxl, hyl⟩)
  clear hn hn2 hxl hyl hlen hB0
  go_enter Try.func75, Try.ntmps75
  go_wp2
  go_loopw [6] (fun i wr => ∃ (k : Nat) (so : Bool) (lo : List Nat) (Ao : Option Addr) (co : Nat), k ≤ n ∧ i = .int .i64 (k : Int) ∧ Below w.heap.size w wr ∧ Box wr w.heap.size (.bool false) (.slice none 0 0) ∧ Box wr (w.heap.size + 1) (.bool so) (.slice Ao lo.length co) ∧ U64s wr (new (w.heap.size + 2)) Ao co lo ∧ Hid (Nm (dotK xs ys k) so lo) ∧ lo.length ≤ 2 * K + k) (fun i _ => n - (intOf i).toNat)
  case atStart => exact ⟨0, false, [], none, 0, Nat.zero_le _, rfl, Hal.out, bT, bR, U64s.nil _ _, ⟨rfl, (limbs_eq_nil.2 rfl).symm⟩, by simp⟩
  case round =>
    clear bT bR Hal
    obtain ⟨k, so, lo, Ao, co, hk, rfl, hbel, bT, bR, uo, hno, hlo⟩ := hrel
    by_cases hlt : k < n
    · obtain ⟨hn1, hn2, hn3, hn4⟩ := Hn.out
      have hkp : k < ps.length := by omega
      have hkq : k < qs.length := by omega
      have hkx : k < xs.length := by omega
      have hky : k < ys.length := by omega
      obtain ⟨b, o, B1, d1, rfl, hbb, c0, c1, hu⟩ := (ha.below hbel).at hkp
      obtain ⟨b2, o2, B2, d2, rfl, hbb2, c2, c3, hu2⟩ := (hb.below hbel).at hkq
      have na := hx.at k hkx hkp
      have nb := hy.at k hky hkq
      have hst := dotK_succ hkx hky
      have hp1 := hK1 ps[k] (List.getElem_mem hkp)
      have hq1 := hK2 qs[k] (List.getElem_mem hkq)
      generalize dotK xs ys k = z0 at *
      generalize xs[k] = x at *
      generalize ys[k] = y at *
      generalize ps[k].1 = s at *
      generalize ps[k].2 = l at *
      generalize qs[k].1 = t at *
      generalize qs[k].2 = l2 at *
      obtain ⟨sp, lp, np⟩ : ∃ s l, Nm (x * y) s l := ⟨_, _, Nm.mk' _⟩
      obtain ⟨sz, lz, nz⟩ : ∃ s l, Nm (z0 + x * y) s l := ⟨_, _, Nm.mk' _⟩
      have hlp : lp.length ≤ 2 * K := by
        have := lz_mul x y
        rw [← np.len, ← na.len, ← nb.len] at this
        omega
      have hlz : lz.length ≤ 2 * K + (k + 1) := by
        have := lz_add z0 (x * y)
        rw [← nz.len, ← np.len, ← hno.out.len] at this
        omega
      have hald : Below wr.heap.size wr wr.drew := (Below.refl _ _).drew
      have bRd := bR.below hald
      have bTd := bT.below hald
      obtain ⟨r0, r1, rf0, rf1, _⟩ := bR
      have s0 := (show wr.drew.cell? ⟨w.heap.size + 1, 0, none⟩ = _ from r0)
      have s1 := (show wr.drew.cell? ⟨w.heap.size + 1, 1, none⟩ = _ from r1)
      have s2 := (show wr.drew.cell? ⟨b, o + k * 2, none⟩ = _ from c0)
      have s3 := (show wr.drew.cell? ⟨b, o + k * 2 + 1, none⟩ = _ from c1)
      have s4 := (show wr.drew.cell? ⟨b2, o2 + k * 2, none⟩ = _ from c2)
      have s5 := (show wr.drew.cell? ⟨b2, o2 + k * 2 + 1, none⟩ = _ from c3)
      have C0 := Lib.hid (r5times_n na nb np rfl (by omega) (by omega) (hu.below hald) (hu2.below hald))
      have C1 := Lib.hid (fun (w1 : World) (A0 : Option Addr) (c0 : Nat) (Z0 : Zone) (h : Below wr.heap.size wr w1) (h' : U64s w1 Z0 A0 c0 lp) => r5sum_n hno.out np nz rfl (by omega) (by omega) (uo.below h) h')
      have Hald := Lib.hid hald
      have Hbel := Lib.hid hbel
      have hnz : Nm (dotK xs ys (k + 1)) sz lz := by rw [hst]; exact nz
      have Hnz := Lib.hid hnz
      have hw1 : w.heap.size + 1 < wr.heap.size := bRd.lt
      clear na nb np nz hst hno hu hu2 hald hbel hx hy ha hb hnz h3 hK1 hK2 r0 r1 c0 c1 c2 c3 hkp hkq hkx hky hn1 hn2 hn3 hn4 uo
      go_wp2
      go_region_with (first
        | (go_at_call 121; refine C0.out.mono ?_; rintro e w2 ⟨A0, c0, rfl, u0, hc0⟩; have p0 := keepC hc0 s0; have p1 := keepC hc0 s1; have p2 := keepC hc0 s2; have p3 := keepC hc0 s3; have p4 := keepC hc0 s4; have p5 := keepC hc0 s5)
        | (go_at_call 120; refine (C1.out _ _ _ _ (from_ Hald.out hc0) u0).mono ?_; rintro e w3 ⟨A1, c1, rfl, u1, hc1⟩; have q0 := keepC hc1 p0; have q1 := keepC hc1 p1; have q2 := keepC hc1 p2; have q3 := keepC hc1 p3; have q4 := keepC hc1 p4; have q5 := keepC hc1 p5; obtain ⟨_, _, f0, f1, _⟩ := (bRd.below hc0).below hc1))
      all_goals
        have hb3 := from_ (from_ Hald.out hc0) hc1
        have hB3 := from_ Hbel.out hb3
        have hP := ((bRd.below hc0).below hc1).put hB3 (by omega) (.bool sz) (.slice A1 lz.length c1)
        have hs0 := hc0.size
        have hs1 := Hald.out.size
        have hT3 := (bTd.below hc0).below hc1
        have hT4 : Box ((w3.setCell ⟨w.heap.size + 1, 0, none⟩ (.bool sz)).setCell ⟨w.heap.size + 1, 1, none⟩ (.slice A1 lz.length c1)) w.heap.size (.bool false) (.slice none 0 0) := hT3.other (by omega)
        have hu3 : U64s ((w3.setCell ⟨w.heap.size + 1, 0, none⟩ (.bool sz)).setCell ⟨w.heap.size + 1, 1, none⟩ (.slice A1 lz.length c1)) (new (w.heap.size + 2)) A1 c1 lz := (u1.mono (new_le (show w.heap.size + 2 ≤ w2.heap.size by omega))).keep fun b hb _ => by
          have hb' : w.heap.size + 2 ≤ b := hb
          rw [Below.heap_setCell _ _ _ _ (show b ≠ w.heap.size + 1 by omega), Below.heap_setCell _ _ _ _ (show b ≠ w.heap.size + 1 by omega)]
        have HU := Lib.hid hu3
        have HP := Lib.hid hP
        have HT := Lib.hid hT4
        clear hP hu3 u1 u0 hB3 hb3 hT3 hT4
        go_wp2
        go_roundw
        case rel => exact ⟨k + 1, sz, lz, A1, c1, by omega, by go_num, HP.out.bel, HT.out, HP.out.box, HU.out, Hnz, by omega⟩
        case measure => simp [intOf]; omega
    · obtain rfl : n = k := by omega
      have hz := hno.out
      rw [dotK_all (by have := Hn.out.2.2.1; omega)] at hz
      obtain ⟨rfl, rfl⟩ : so = r ∧ lo = m := ⟨hz.1.trans h3.1.symm, hz.2.trans h3.2.symm⟩
      have hP := bT.put hbel (by omega) (.bool so) (.slice Ao lo.length co)
      have hu3 : U64s ((wr.setCell ⟨w.heap.size, 0, none⟩ (.bool so)).setCell ⟨w.heap.size, 1, none⟩ (.slice Ao lo.length co)) (new (w.heap.size + 2)) Ao co lo := uo.keep fun b hb _ => by
        have hb' : w.heap.size + 2 ≤ b := hb
        rw [Below.heap_setCell _ _ _ _ (show b ≠ w.heap.size by omega), Below.heap_setCell _ _ _ _ (show b ≠ w.heap.size by omega)]
      have HU := Lib.hid (hu3.mono (Y := new w.heap.size) (new_le (by omega)))
      have HP := Lib.hid hP
      obtain ⟨r0, r1, rf0, rf1, _⟩ := bR
      obtain ⟨t0, t1, tf0, tf1, _⟩ := bT
      clear hz hno uo hx hy ha hb h3 hu3 hP
      go_wp2
      refine bodyPost_ret (res_int rfl _ w.heap.size rfl HP.out.c0 HP.out.c1) rfl ?_
      exact ⟨_, _, rfl, HU.out, HP.out.bel⟩

end Go.Proofs.Ytjnjlgknmocdlaa
