/- Intervals, the program's: corners. No conditions but bounds on lengths. -/
import Derived.Deep.RegionHeld3
import Derived.Test.YthpngihjcphigaaGreatRItvR
import Derived.Test.YthpngihjcphigaaGreatRVecH
import Derived.Test.YthpngihjcphigaaGreatRW5D
import Derived.Test.YthpngihjcphigaaGreatRW5C
import Derived.Test.YthpngihjcphigaaGreatRWhU
import Derived.Test.YthpngihjcphigaaGreatRRefQ
import Derived.Test.YthpngihjcphigaaGreatRW5G
set_option linter.unusedVariables false
set_option linter.unusedSimpArgs false
set_option maxRecDepth 100000
set_option maxHeartbeats 40000000
namespace Go.Proofs.YthpngihjcphigaaGreat
open Go.Lib (hid)
open Go.RowKit
variable {A B : Option Addr} {W w w' : World} {Z Z1 Z2 : Zone} {a b : Value} {base c d fuel g n : Nat} {cs : List Value} {e u v : TypeId} {held r s t : Bool} {l m : List Nat} {x y z : Int}
structure Pq where
 x : Int
 b : Int
 s : Bool
 l : List Nat
def GivenP (w : World) (g : Nat) (ps : List Pq) : Prop :=
 ∀ j (h : j < ps.length), ∃ A c, w.cell? ⟨g, j * 3, none⟩ = some (.int .i64 ps[j].b) ∧ w.cell? ⟨g, j * 3 + 1, none⟩ = some (.bool ps[j].s) ∧ w.cell? ⟨g, j * 3 + 2, none⟩ = some (.slice A ps[j].l.length c) ∧ Pl ps[j].x ps[j].b ps[j].s ps[j].l ∧ U64s w old A c ps[j].l ∧ ps[j].l.length ≤ 9000
theorem GivenP.below {ps : List Pq} (h : GivenP w g ps) (hb : Below w.heap.size w w') : GivenP w' g ps := fun j hj => by
 obtain ⟨A, c, h0, h1, h2, h3, h4, h5⟩ := h j hj
 exact ⟨A, c, keepC hb h0, keepC hb h1, keepC hb h2, h3, h4.below hb, h5⟩
theorem BoxL.of3 {c : Value} (h : Box3 W g a b c) : BoxL W g [a, b, c] := by
 refine ⟨fun j v hv => ?_, fun j v hv => ?_, h.lt⟩ <;> rcases j with _ | _ | _ | j <;> simp at hv <;> subst hv
 · exact h.c0
 · exact h.c1
 · exact h.c2
 · exact h.f0
 · exact h.f1
 · exact h.f2
theorem BoxL.three {c : Value} (h : BoxL W g [a, b, c]) : Box3 W g a b c :=
 ⟨h.c 0 _ rfl, h.c 1 _ rfl, h.c 2 _ rfl, h.f 0 _ rfl, h.f 1 _ rfl, h.f 2 _ rfl, h.lt⟩
theorem Box3.set3 {c : Value} (h : Box3 W g a b c) (x y z : Value) : Box3 (((W.setCell ⟨g, 0, none⟩ x).setCell ⟨g, 1, none⟩ y).setCell ⟨g, 2, none⟩ z) g x y z :=
 BoxL.three ((((BoxL.of3 h).set 0 x rfl).set 1 y rfl).set 2 z rfl)
theorem Box3.oth3 {c : Value} (h : Box3 W g a b c) (g' : Nat) (hn : g' ≠ g) (x y z : Value) : Box3 (((W.setCell ⟨g', 0, none⟩ x).setCell ⟨g', 1, none⟩ y).setCell ⟨g', 2, none⟩ z) g a b c :=
 BoxL.three ((((BoxL.of3 h).other g' 0 hn x).other g' 1 hn y).other g' 2 hn z)
theorem imin_p {ps : List Pq} {m : Int} (h : GivenP w g ps) (hn : n = ps.length) (hl : ps.length ≤ 1000) (h1 : ∀ j (hj : j < ps.length), m ≤ ps[j].x) (h2 : ∃ j, ∃ (hj : j < ps.length), ps[j].x = m) :
  Calls Tryz.prog 113 #[.slice (some ⟨g, 0, none⟩) n c, .func (.func 84) #[] #[]] w fun e w' => ∃ b s l A d, e = .returned (.agg #[.int .i64 b, .bool s, .slice A l.length d]) ∧ Pl m b s l ∧ U64s w' old A d l ∧ l.length ≤ 9000 ∧ Below w.heap.size w w' := by
 subst hn
 have h0 : 0 < ps.length := by obtain ⟨j, hj, _⟩ := h2; omega
 obtain ⟨H1, H2⟩ := hid2 h1 h2
 obtain ⟨A0, d0, k0, k1, k2, P0, U0, L0⟩ := h 0 h0
 rw [Nat.zero_mul] at k0 k1 k2
 have hb0 : Below w.heap.size w (w.alloc (.cells #[.int .i64 0, .bool false, .slice none 0 0] 53)) := (Below.refl _ w).alloc (Nat.le_refl _) _
 obtain ⟨B0, Q0⟩ := hid2 (Box3.new w (.int .i64 0) (.bool false) (.slice none 0 0) 53) (Box3.new (w.alloc (.cells #[.int .i64 0, .bool false, .slice none 0 0] 53)) (.int .i64 ps[0].b) (.bool ps[0].s) (.slice A0 ps[0].l.length d0) 53)
 have k0' := k0
 have hd : decide ((ps.length : Int) < 1) = false := decide_eq_false (by omega)
 have e0 := keepC hb0 k0
 have e1 := keepC hb0 k1
 have e2 := keepC hb0 k2
 have HB := hid hb0
 have hsz : (w.alloc (.cells #[.int .i64 0, .bool false, .slice none 0 0] 53)).heap.size = w.heap.size + 1 := by simp
 obtain ⟨HP0, HU0⟩ := hid2 P0 U0
 clear h1 h2 hb0 P0 U0 k0 k1 k2
 go_enter Tryz.func113, Tryz.ntmps113
 go_wp2
 go_loopw [6] (fun i wr => ∃ k : Nat, 1 ≤ k ∧ k ≤ ps.length ∧ i = .int .i64 k ∧ Below w.heap.size w wr ∧ Hid (∃ r, ∃ (hr : r < ps.length), ∃ A d, Box3 wr (w.heap.size + 1) (.int .i64 ps[r].b) (.bool ps[r].s) (.slice A ps[r].l.length d) ∧ U64s w old A d ps[r].l ∧ ∀ j (hj : j < ps.length), j < k → ps[r].x ≤ ps[j].x) ∧ Hid (Box3 wr w.heap.size (.int .i64 0) (.bool false) (.slice none 0 0))) (fun i _ => ps.length - (intOf i).toNat)
 case atStart =>
  have hb1 : Below w.heap.size w ((w.alloc (.cells #[.int .i64 0, .bool false, .slice none 0 0] 53)).alloc (.cells #[.int .i64 ps[0].b, .bool ps[0].s, .slice A0 ps[0].l.length d0] 53)) := HB.out.alloc HB.out.size _
  refine ⟨1, by omega, by omega, rfl, hb1, hid ⟨0, h0, A0, d0, ?_, HU0.out.mono (le_old _), fun j hj h => ?_⟩, hid (B0.out.alloc _)⟩
  · have := Q0.out
    rw [hsz] at this
    exact this
  · obtain rfl : j = 0 := by omega
    exact Int.le_refl _
 case round =>
  obtain ⟨k, hk1, hk, rfl, hbel, hR, hZ⟩ := hrel
  by_cases hlt : k < ps.length
  · obtain ⟨r, hr, A, d, bx, ur, hall⟩ := hR.out
    obtain ⟨A', d', c0, c1, c2, Pk, uk, lk⟩ := h k hlt
    replace c0 := keepC hbel c0
    replace c1 := keepC hbel c1
    replace c2 := keepC hbel c2
    obtain ⟨_, _, _, _, _, Pr, _, lr⟩ := (h.below hbel) r hr
    obtain ⟨gg, hgg⟩ : ∃ gg, cmpP ps[k].b ps[r].b ps[k].x ps[r].x = gg := ⟨_, rfl⟩
    have hle := cmpP_le Pk Pr
    rw [hgg] at hle
    obtain ⟨Hcp, Huk, Hbx, Hur⟩ := hid4 (fun (W : World) (hb : Below wr.heap.size wr W) => icompare_p (w := W) Pk Pr (uk.below (from_ hbel hb)) (ur.below (from_ hbel hb)) (by omega) (by omega) hgg) uk bx ur
    have hw0 : w.heap.size + 1 < wr.heap.size := bx.lt
    obtain ⟨b0, b1, b2, bf0, bf1, bf2, _⟩ := bx
    have Hk0 := hid c0
    have hgl : g < w.heap.size := lt_of_cell k0'
    have hne : ¬ g = w.heap.size + 1 := by omega
    have hne2 : ¬ w.heap.size + 1 = g := by omega
    have hD := hid (show Below wr.heap.size wr wr.drew from (Below.refl _ wr).drew)
    have s0 := keepC hD.out c0
    have s1 := keepC hD.out c1
    have s2 := keepC hD.out c2
    have s3 := keepC hD.out b0
    have s4 := keepC hD.out b1
    have s5 := keepC hD.out b2
    have Hc0 := hid (And.intro c0 (And.intro c1 c2))
    by_cases hc : gg < 0
    · have hd : decide (gg < 0) = true := decide_eq_true hc
      have Hnew := hid (show ∀ j (hj : j < ps.length), j < k + 1 → ps[k].x ≤ ps[j].x from fun j hj hjk => by
       rcases Nat.lt_or_ge j k with h' | h'
       · have := hall j hj h'; omega
       · obtain rfl : j = k := by omega
         exact Int.le_refl _)
      clear hall hle hgg Pk Pr uk ur lk lr hc hR c0 c1 c2 b0 b1 b2
      have Hq : Hid (ps[k] = ps[k]) := rfl
      go_wp2
      go_region_held3 (fun w' => w'.cell? ⟨g, k * 3, none⟩ = some (.int .i64 ps[k].b) ∧ w'.cell? ⟨g, k * 3 + 1, none⟩ = some (.bool ps[k].s) ∧ w'.cell? ⟨g, k * 3 + 2, none⟩ = some (.slice A' ps[k].l.length d') ∧ C3 w' (w.heap.size + 1) (.int .i64 ps[r].b) (.bool ps[r].s) (.slice A ps[r].l.length d))
       (first
        | (go_keep; done)
        | exact ⟨s0, s1, s2, s3, s4, s5⟩
        | exact ⟨t0, t1, t2, t3, t4, t5⟩)
       (first
        | (go_at_call 84; with_reducible refine (Hcp.out _ hD.out).mono ?_; rintro e w1 ⟨rfl, hc⟩; have t0 := keepC hc s0; have t1 := keepC hc s1; have t2 := keepC hc s2; have t3 := keepC hc s3; have t4 := keepC hc s4; have t5 := keepC hc s5))
      all_goals
       have hb1 := hid (hD.out.trans (hc.mono hD.out.size))
       have B1 := Hbx.out.below hb1.out
       obtain ⟨HB3, HZ3, HP⟩ := hid3 (B1.set3 (.int .i64 ps[k].b) (.bool ps[k].s) (.slice A' ps[k].l.length d')) ((hZ.out.below hb1.out).oth3 (w.heap.size + 1) (by omega) (.int .i64 ps[k].b) (.bool ps[k].s) (.slice A' ps[k].l.length d')) (B1.put (from_ hbel hb1.out) (by omega) (.int .i64 ps[k].b) (.bool ps[k].s) (.slice A' ps[k].l.length d'))
       obtain ⟨_, _, _, wf0, wf1, wf2, _⟩ := B1
       go_wp2
       go_roundw
       case rel => exact ⟨k + 1, by omega, by omega, by go_num, HP.out.bel, hid ⟨k, hlt, A', d', HB3.out, Huk.out, Hnew.out⟩, HZ3⟩
       case measure => simp [intOf]; omega
    · have hd : decide (gg < 0) = false := decide_eq_false hc
      have Hnew := hid (show ∀ j (hj : j < ps.length), j < k + 1 → ps[r].x ≤ ps[j].x from fun j hj hjk => by
       rcases Nat.lt_or_ge j k with h' | h'
       · exact hall j hj h'
       · obtain rfl : j = k := by omega
         omega)
      clear hall hle hgg Pk Pr uk ur lk lr hc hR c0 c1 c2 b0 b1 b2
      have Hq : Hid (ps[k] = ps[k]) := rfl
      go_wp2
      go_region_held3 (fun w' => w'.cell? ⟨g, k * 3, none⟩ = some (.int .i64 ps[k].b) ∧ w'.cell? ⟨g, k * 3 + 1, none⟩ = some (.bool ps[k].s) ∧ w'.cell? ⟨g, k * 3 + 2, none⟩ = some (.slice A' ps[k].l.length d') ∧ C3 w' (w.heap.size + 1) (.int .i64 ps[r].b) (.bool ps[r].s) (.slice A ps[r].l.length d))
       (first
        | (go_keep; done)
        | exact ⟨s0, s1, s2, s3, s4, s5⟩
        | exact ⟨t0, t1, t2, t3, t4, t5⟩)
       (first
        | (go_at_call 84; with_reducible refine (Hcp.out _ hD.out).mono ?_; rintro e w1 ⟨rfl, hc⟩; have t0 := keepC hc s0; have t1 := keepC hc s1; have t2 := keepC hc s2; have t3 := keepC hc s3; have t4 := keepC hc s4; have t5 := keepC hc s5))
      all_goals
       have hb1 := hid (hD.out.trans (hc.mono hD.out.size))
       go_wp2
       go_roundw
       case rel => exact ⟨k + 1, by omega, by omega, by go_num, from_ hbel hb1.out, hid ⟨r, hr, A, d, Hbx.out.below hb1.out, Hur.out, Hnew.out⟩, hid (hZ.out.below hb1.out)⟩
       case measure => simp [intOf]; omega
  · obtain rfl : k = ps.length := by omega
    obtain ⟨r, hr, A, d, bx, ur, hall⟩ := hR.out
    obtain ⟨_, _, _, _, _, Pr, _, lr⟩ := (h.below hbel) r hr
    have hm : ps[r].x = m := by
     obtain ⟨j, hj, e⟩ := H2.out
     have e1 := hall j hj hj
     have e2 := H1.out r hr
     omega
    obtain ⟨HPr, Hlr, Hur, Hbx, HP⟩ := hid5 (hm ▸ Pr) lr ur bx (hZ.out.put hbel (Nat.le_refl _) (.int .i64 ps[r].b) (.bool ps[r].s) (.slice A ps[r].l.length d))
    obtain ⟨b0, b1, b2, bf0, bf1, bf2, _⟩ := bx
    obtain ⟨z0, z1, z2, zf0, zf1, zf2, _⟩ := hZ.out
    clear hall hm Pr lr ur
    go_wp2
    refine bodyPost_ret (res_place rfl _ w.heap.size rfl HP.out.c0 HP.out.c1 HP.out.c2) rfl ?_
    exact ⟨_, _, _, _, _, rfl, HPr.out, Hur.out.below HP.out.bel, Hlr.out, HP.out.bel⟩
theorem imax_p {ps : List Pq} {m : Int} (h : GivenP w g ps) (hn : n = ps.length) (hl : ps.length ≤ 1000) (h1 : ∀ j (hj : j < ps.length), ps[j].x ≤ m) (h2 : ∃ j, ∃ (hj : j < ps.length), ps[j].x = m) :
  Calls Tryz.prog 114 #[.slice (some ⟨g, 0, none⟩) n c, .func (.func 84) #[] #[]] w fun e w' => ∃ b s l A d, e = .returned (.agg #[.int .i64 b, .bool s, .slice A l.length d]) ∧ Pl m b s l ∧ U64s w' old A d l ∧ l.length ≤ 9000 ∧ Below w.heap.size w w' := by
 subst hn
 have h0 : 0 < ps.length := by obtain ⟨j, hj, _⟩ := h2; omega
 obtain ⟨H1, H2⟩ := hid2 h1 h2
 obtain ⟨A0, d0, k0, k1, k2, P0, U0, L0⟩ := h 0 h0
 rw [Nat.zero_mul] at k0 k1 k2
 have hb0 : Below w.heap.size w (w.alloc (.cells #[.int .i64 0, .bool false, .slice none 0 0] 53)) := (Below.refl _ w).alloc (Nat.le_refl _) _
 obtain ⟨B0, Q0⟩ := hid2 (Box3.new w (.int .i64 0) (.bool false) (.slice none 0 0) 53) (Box3.new (w.alloc (.cells #[.int .i64 0, .bool false, .slice none 0 0] 53)) (.int .i64 ps[0].b) (.bool ps[0].s) (.slice A0 ps[0].l.length d0) 53)
 have k0' := k0
 have hd : decide ((ps.length : Int) < 1) = false := decide_eq_false (by omega)
 have e0 := keepC hb0 k0
 have e1 := keepC hb0 k1
 have e2 := keepC hb0 k2
 have HB := hid hb0
 have hsz : (w.alloc (.cells #[.int .i64 0, .bool false, .slice none 0 0] 53)).heap.size = w.heap.size + 1 := by simp
 obtain ⟨HP0, HU0⟩ := hid2 P0 U0
 clear h1 h2 hb0 P0 U0 k0 k1 k2
 go_enter Tryz.func114, Tryz.ntmps114
 go_wp2
 go_loopw [6] (fun i wr => ∃ k : Nat, 1 ≤ k ∧ k ≤ ps.length ∧ i = .int .i64 k ∧ Below w.heap.size w wr ∧ Hid (∃ r, ∃ (hr : r < ps.length), ∃ A d, Box3 wr (w.heap.size + 1) (.int .i64 ps[r].b) (.bool ps[r].s) (.slice A ps[r].l.length d) ∧ U64s w old A d ps[r].l ∧ ∀ j (hj : j < ps.length), j < k → ps[j].x ≤ ps[r].x) ∧ Hid (Box3 wr w.heap.size (.int .i64 0) (.bool false) (.slice none 0 0))) (fun i _ => ps.length - (intOf i).toNat)
 case atStart =>
  have hb1 : Below w.heap.size w ((w.alloc (.cells #[.int .i64 0, .bool false, .slice none 0 0] 53)).alloc (.cells #[.int .i64 ps[0].b, .bool ps[0].s, .slice A0 ps[0].l.length d0] 53)) := HB.out.alloc HB.out.size _
  refine ⟨1, by omega, by omega, rfl, hb1, hid ⟨0, h0, A0, d0, ?_, HU0.out.mono (le_old _), fun j hj h => ?_⟩, hid (B0.out.alloc _)⟩
  · have := Q0.out
    rw [hsz] at this
    exact this
  · obtain rfl : j = 0 := by omega
    exact Int.le_refl _
 case round =>
  obtain ⟨k, hk1, hk, rfl, hbel, hR, hZ⟩ := hrel
  by_cases hlt : k < ps.length
  · obtain ⟨r, hr, A, d, bx, ur, hall⟩ := hR.out
    obtain ⟨A', d', c0, c1, c2, Pk, uk, lk⟩ := h k hlt
    replace c0 := keepC hbel c0
    replace c1 := keepC hbel c1
    replace c2 := keepC hbel c2
    obtain ⟨_, _, _, _, _, Pr, _, lr⟩ := (h.below hbel) r hr
    obtain ⟨gg, hgg⟩ : ∃ gg, cmpP ps[k].b ps[r].b ps[k].x ps[r].x = gg := ⟨_, rfl⟩
    have hle := cmpP_le Pk Pr
    rw [hgg] at hle
    obtain ⟨Hcp, Huk, Hbx, Hur⟩ := hid4 (fun (W : World) (hb : Below wr.heap.size wr W) => icompare_p (w := W) Pk Pr (uk.below (from_ hbel hb)) (ur.below (from_ hbel hb)) (by omega) (by omega) hgg) uk bx ur
    have hw0 : w.heap.size + 1 < wr.heap.size := bx.lt
    obtain ⟨b0, b1, b2, bf0, bf1, bf2, _⟩ := bx
    have Hk0 := hid c0
    have hgl : g < w.heap.size := lt_of_cell k0'
    have hne : ¬ g = w.heap.size + 1 := by omega
    have hne2 : ¬ w.heap.size + 1 = g := by omega
    have hD := hid (show Below wr.heap.size wr wr.drew from (Below.refl _ wr).drew)
    have s0 := keepC hD.out c0
    have s1 := keepC hD.out c1
    have s2 := keepC hD.out c2
    have s3 := keepC hD.out b0
    have s4 := keepC hD.out b1
    have s5 := keepC hD.out b2
    have Hc0 := hid (And.intro c0 (And.intro c1 c2))
    by_cases hc : 0 < gg
    · have hd : decide (0 < gg) = true := decide_eq_true hc
      have Hnew := hid (show ∀ j (hj : j < ps.length), j < k + 1 → ps[j].x ≤ ps[k].x from fun j hj hjk => by
       rcases Nat.lt_or_ge j k with h' | h'
       · have := hall j hj h'; omega
       · obtain rfl : j = k := by omega
         exact Int.le_refl _)
      clear hall hle hgg Pk Pr uk ur lk lr hc hR c0 c1 c2 b0 b1 b2
      have Hq : Hid (ps[k] = ps[k]) := rfl
      go_wp2
      go_region_held3 (fun w' => w'.cell? ⟨g, k * 3, none⟩ = some (.int .i64 ps[k].b) ∧ w'.cell? ⟨g, k * 3 + 1, none⟩ = some (.bool ps[k].s) ∧ w'.cell? ⟨g, k * 3 + 2, none⟩ = some (.slice A' ps[k].l.length d') ∧ C3 w' (w.heap.size + 1) (.int .i64 ps[r].b) (.bool ps[r].s) (.slice A ps[r].l.length d))
       (first
        | (go_keep; done)
        | exact ⟨s0, s1, s2, s3, s4, s5⟩
        | exact ⟨t0, t1, t2, t3, t4, t5⟩)
       (first
        | (go_at_call 84; with_reducible refine (Hcp.out _ hD.out).mono ?_; rintro e w1 ⟨rfl, hc⟩; have t0 := keepC hc s0; have t1 := keepC hc s1; have t2 := keepC hc s2; have t3 := keepC hc s3; have t4 := keepC hc s4; have t5 := keepC hc s5))
      all_goals
       have hb1 := hid (hD.out.trans (hc.mono hD.out.size))
       have B1 := Hbx.out.below hb1.out
       obtain ⟨HB3, HZ3, HP⟩ := hid3 (B1.set3 (.int .i64 ps[k].b) (.bool ps[k].s) (.slice A' ps[k].l.length d')) ((hZ.out.below hb1.out).oth3 (w.heap.size + 1) (by omega) (.int .i64 ps[k].b) (.bool ps[k].s) (.slice A' ps[k].l.length d')) (B1.put (from_ hbel hb1.out) (by omega) (.int .i64 ps[k].b) (.bool ps[k].s) (.slice A' ps[k].l.length d'))
       obtain ⟨_, _, _, wf0, wf1, wf2, _⟩ := B1
       go_wp2
       go_roundw
       case rel => exact ⟨k + 1, by omega, by omega, by go_num, HP.out.bel, hid ⟨k, hlt, A', d', HB3.out, Huk.out, Hnew.out⟩, HZ3⟩
       case measure => simp [intOf]; omega
    · have hd : decide (0 < gg) = false := decide_eq_false hc
      have Hnew := hid (show ∀ j (hj : j < ps.length), j < k + 1 → ps[j].x ≤ ps[r].x from fun j hj hjk => by
       rcases Nat.lt_or_ge j k with h' | h'
       · exact hall j hj h'
       · obtain rfl : j = k := by omega
         omega)
      clear hall hle hgg Pk Pr uk ur lk lr hc hR c0 c1 c2 b0 b1 b2
      have Hq : Hid (ps[k] = ps[k]) := rfl
      go_wp2
      go_region_held3 (fun w' => w'.cell? ⟨g, k * 3, none⟩ = some (.int .i64 ps[k].b) ∧ w'.cell? ⟨g, k * 3 + 1, none⟩ = some (.bool ps[k].s) ∧ w'.cell? ⟨g, k * 3 + 2, none⟩ = some (.slice A' ps[k].l.length d') ∧ C3 w' (w.heap.size + 1) (.int .i64 ps[r].b) (.bool ps[r].s) (.slice A ps[r].l.length d))
       (first
        | (go_keep; done)
        | exact ⟨s0, s1, s2, s3, s4, s5⟩
        | exact ⟨t0, t1, t2, t3, t4, t5⟩)
       (first
        | (go_at_call 84; with_reducible refine (Hcp.out _ hD.out).mono ?_; rintro e w1 ⟨rfl, hc⟩; have t0 := keepC hc s0; have t1 := keepC hc s1; have t2 := keepC hc s2; have t3 := keepC hc s3; have t4 := keepC hc s4; have t5 := keepC hc s5))
      all_goals
       have hb1 := hid (hD.out.trans (hc.mono hD.out.size))
       go_wp2
       go_roundw
       case rel => exact ⟨k + 1, by omega, by omega, by go_num, from_ hbel hb1.out, hid ⟨r, hr, A, d, Hbx.out.below hb1.out, Hur.out, Hnew.out⟩, hid (hZ.out.below hb1.out)⟩
       case measure => simp [intOf]; omega
  · obtain rfl : k = ps.length := by omega
    obtain ⟨r, hr, A, d, bx, ur, hall⟩ := hR.out
    obtain ⟨_, _, _, _, _, Pr, _, lr⟩ := (h.below hbel) r hr
    have hm : ps[r].x = m := by
     obtain ⟨j, hj, e⟩ := H2.out
     have e1 := hall j hj hj
     have e2 := H1.out r hr
     omega
    obtain ⟨HPr, Hlr, Hur, Hbx, HP⟩ := hid5 (hm ▸ Pr) lr ur bx (hZ.out.put hbel (Nat.le_refl _) (.int .i64 ps[r].b) (.bool ps[r].s) (.slice A ps[r].l.length d))
    obtain ⟨b0, b1, b2, bf0, bf1, bf2, _⟩ := bx
    obtain ⟨z0, z1, z2, zf0, zf1, zf2, _⟩ := hZ.out
    clear hall hm Pr lr ur
    go_wp2
    refine bodyPost_ret (res_place rfl _ w.heap.size rfl HP.out.c0 HP.out.c1 HP.out.c2) rfl ?_
    exact ⟨_, _, _, _, _, rfl, HPr.out, Hur.out.below HP.out.bel, Hlr.out, HP.out.bel⟩
theorem icorners_p {ps : List Pq} {m M : Int} (h : GivenP w g ps) (hn : n = ps.length) (hl : ps.length ≤ 1000) (h1 : ∀ j (hj : j < ps.length), m ≤ ps[j].x) (h2 : ∃ j, ∃ (hj : j < ps.length), ps[j].x = m) (h3 : ∀ j (hj : j < ps.length), ps[j].x ≤ M) (h4 : ∃ j, ∃ (hj : j < ps.length), ps[j].x = M)
  (gm : m < bigZ) (gM : -bigZ < M) {n0 s0 n1 s1 : Bool} {l0 l1 : List Nat} (e0 : n0 = nLo m ∧ s0 = sE m ∧ l0 = lE m) (e1 : n1 = nHi M ∧ s1 = sE M ∧ l1 = lE M) :
  Calls Tryz.prog 71 #[.slice (some ⟨g, 0, none⟩) n c] w fun e w' => ∃ A1 c1 A2 c2, e = .returned (.agg #[.bool n0, .bool s0, .slice A1 l0.length c1, .bool n1, .bool s1, .slice A2 l1.length c2]) ∧ U64s w' (new w.heap.size) A1 c1 l0 ∧ U64s w' (new w.heap.size) A2 c2 l1 ∧ Below w.heap.size w w' := by
 have hb0 : Below w.heap.size w (w.alloc (.cells #[.bool false, .bool false, .slice none 0 0, .bool false, .bool false, .slice none 0 0] 29)) := (Below.refl _ w).alloc (Nat.le_refl _) _
 obtain ⟨HB, hB, MI, HH, H3, H4⟩ := hid6 hb0 (Box6.new w (.bool false) (.bool false) (.slice none 0 0) (.bool false) (.bool false) (.slice none 0 0) 29) (imin_p (c := c) (h.below hb0) hn hl h1 h2) h h3 h4
 obtain ⟨Hn, E1⟩ := hid2 hn e1
 clear h h1 h2 h3 h4 hb0 hn e1
 go_enter Tryz.func71, Tryz.ntmps71
 go_wp2_with fail
 refine MI.out.mono ?_
 rintro e w1 ⟨b, s, l, A, d, rfl, P, u, ln, hc1⟩
 have hs' := P.uniq.2.1
 have hl' := P.uniq.2.2
 have hb' := (P.nlo gm).trans e0.1.symm
 obtain rfl : s = s0 := hs'.trans e0.2.1.symm
 obtain rfl : l = l0 := hl'.trans e0.2.2.symm
 obtain ⟨H1, B1, C1⟩ := hid3 (from_ HB.out hc1) (hB.out.below hc1) (ibound_p P hb' u (by omega))
 clear P u hs' hl' hb' e0
 go_wp2_with fail
 refine C1.out.mono ?_
 rintro e w2 ⟨A1, c1, rfl, u1, hc2⟩
 obtain ⟨H2, B2, Hu1⟩ := hid3 (from_ H1.out hc2) (B1.out.below hc2) u1
 have MA := hid (imax_p (c := c) (HH.out.below H2.out) Hn.out hl H3.out H4.out)
 clear u1
 go_wp2_with fail
 refine MA.out.mono ?_
 rintro e w3 ⟨b', t, k, A', d', rfl, P, u, ln', hc3⟩
 have hs' := P.uniq.2.1
 have hl' := P.uniq.2.2
 have hb' := (P.nhi gM).trans E1.out.1.symm
 obtain rfl : t = s1 := hs'.trans E1.out.2.1.symm
 obtain rfl : k = l1 := hl'.trans E1.out.2.2.symm
 obtain ⟨H3', B3, C2, Hu2⟩ := hid4 (from_ H2.out hc3) (B2.out.below hc3) (ibound_p P hb' u (by omega)) (Hu1.out.below hc3)
 clear P u hs' hl' hb' E1
 go_wp2_with fail
 refine C2.out.mono ?_
 rintro e w4 ⟨A2, c2, rfl, u2, hc4⟩
 have B4 := B3.out.below hc4
 have z1 := B1.out.lt
 have z3 := B3.out.lt
 obtain ⟨HP, U1, U2⟩ := hid3 (B4.put (from_ H3'.out hc4) (Nat.le_refl _) (.bool n0) (.bool s) (.slice A1 l.length c1) (.bool n1) (.bool t) (.slice A2 k.length c2)) (((Hu2.out.below hc4).set6 (g := w.heap.size) (fun (h : w1.heap.size ≤ w.heap.size) => by omega) (.bool n0) (.bool s) (.slice A1 l.length c1) (.bool n1) (.bool t) (.slice A2 k.length c2)).mono (new_le (Nat.le_of_lt z1))) ((u2.set6 (g := w.heap.size) (fun (h : w3.heap.size ≤ w.heap.size) => by omega) (.bool n0) (.bool s) (.slice A1 l.length c1) (.bool n1) (.bool t) (.slice A2 k.length c2)).mono (new_le (Nat.le_of_lt z3)))
 have q0 := B4.cf
 clear u2 hc1 hc2 hc3 hc4 z1 z3
 go_wp2
 refine bodyPost_ret (res_itv rfl _ w.heap.size rfl HP.out.box) rfl ?_
 exact ⟨_, _, _, _, rfl, U1.out, U2.out, HP.out.bel⟩
structure IvsAt (w : World) (Z : Zone) (A : Option Addr) (c : Nat) (ps : List Iv) : Prop where
 cap : ps.length ≤ c
 max : c ≤ 9223372036854775807
 row : 0 < ps.length → ∃ b o, A = some ⟨b, o, none⟩ ∧ b < w.heap.size ∧
  ∀ j (hj : j < ps.length), ∃ A0 d0 A1 d1, (w.cell? ⟨b, o + j * 6, none⟩ = some (.bool ps[j].n0) ∧ w.cell? ⟨b, o + j * 6 + 1, none⟩ = some (.bool ps[j].s0) ∧ w.cell? ⟨b, o + j * 6 + 2, none⟩ = some (.slice A0 ps[j].l0.length d0) ∧ w.cell? ⟨b, o + j * 6 + 3, none⟩ = some (.bool ps[j].n1) ∧ w.cell? ⟨b, o + j * 6 + 4, none⟩ = some (.bool ps[j].s1) ∧ w.cell? ⟨b, o + j * 6 + 5, none⟩ = some (.slice A1 ps[j].l1.length d1)) ∧ U64s w Z A0 d0 ps[j].l0 ∧ U64s w Z A1 d1 ps[j].l1
theorem IvsAt.nil (w : World) (Z : Zone) : IvsAt w Z none 0 [] := ⟨by simp, by omega, fun h => absurd h (by simp)⟩
theorem IvsAt.below {ps : List Iv} (h : IvsAt w Z A c ps) (hb : Below w.heap.size w w') : IvsAt w' Z A c ps := by
 refine ⟨h.cap, h.max, fun h0 => ?_⟩
 obtain ⟨b, o, e, h2, h4⟩ := h.row h0
 refine ⟨b, o, e, Nat.lt_of_lt_of_le h2 hb.size, fun j hj => ?_⟩
 obtain ⟨A0, d0, A1, d1, ⟨c0, c1, c2, c3, c4, c5⟩, u0, u1⟩ := h4 j hj
 exact ⟨A0, d0, A1, d1, ⟨keepC hb c0, keepC hb c1, keepC hb c2, keepC hb c3, keepC hb c4, keepC hb c5⟩, u0.below hb, u1.below hb⟩
theorem IvsAt.mono {Y : Zone} {ps : List Iv} (h : IvsAt w Z A c ps) (hz : Z.le Y) : IvsAt w Y A c ps := by
 refine ⟨h.cap, h.max, fun h0 => ?_⟩
 obtain ⟨b, o, e, h2, h4⟩ := h.row h0
 refine ⟨b, o, e, h2, fun j hj => ?_⟩
 obtain ⟨A0, d0, A1, d1, hc, u0, u1⟩ := h4 j hj
 exact ⟨A0, d0, A1, d1, hc, u0.mono hz, u1.mono hz⟩
theorem IvsAt.len {ps : List Iv} (h : IvsAt w Z A c ps) : ps.length ≤ 9223372036854775807 := Nat.le_trans h.cap h.max
theorem IvsAt.at {ps : List Iv} (h : IvsAt w Z A c ps) {j : Nat} (hj : j < ps.length) :
  ∃ b o A0 d0 A1 d1, A = some ⟨b, o, none⟩ ∧ b < w.heap.size ∧ (w.cell? ⟨b, o + j * 6, none⟩ = some (.bool ps[j].n0) ∧ w.cell? ⟨b, o + j * 6 + 1, none⟩ = some (.bool ps[j].s0) ∧ w.cell? ⟨b, o + j * 6 + 2, none⟩ = some (.slice A0 ps[j].l0.length d0) ∧ w.cell? ⟨b, o + j * 6 + 3, none⟩ = some (.bool ps[j].n1) ∧ w.cell? ⟨b, o + j * 6 + 4, none⟩ = some (.bool ps[j].s1) ∧ w.cell? ⟨b, o + j * 6 + 5, none⟩ = some (.slice A1 ps[j].l1.length d1)) ∧ U64s w Z A0 d0 ps[j].l0 ∧ U64s w Z A1 d1 ps[j].l1 := by
 obtain ⟨b, o, e, h2, h4⟩ := h.row (by omega)
 obtain ⟨A0, d0, A1, d1, h⟩ := h4 j hj
 exact ⟨b, o, A0, d0, A1, d1, e, h2, h⟩
theorem IvsAt.small {ps : List Iv} (h : IvsAt w Z A c ps) : ∀ p ∈ ps, Small p.l0 ∧ Small p.l1 := fun p hp => by
 obtain ⟨j, hj, rfl⟩ := List.getElem_of_mem hp
 obtain ⟨_, _, _, _, _, _, _, _, _, u0, u1⟩ := h.at hj
 exact ⟨u0.small, u1.small⟩
open Go.ChangeShapes Go.WideShapes Go.ChangeAt Go.RowKit
structure ItvT (P : Program) (t u v e : TypeId) (fs gs : Array Field) (f0 f1 g0 g1 : Field) : Prop where
 ht : P.underlying t = some (.struct fs)
 hn : P.cellsOf t = 6
 h0 : fs[0]? = some f0
 h1 : fs[1]? = some f1
 o0 : f0.offset = 0
 o1 : f1.offset = 3
 t0 : f0.type = u
 t1 : f1.type = u
 hu : P.underlying u = some (.struct gs)
 hm : P.cellsOf u = 3
 k0 : gs[0]? = some g0
 k1 : gs[1]? = some g1
 q0 : g0.offset = 0
 q1 : g1.offset = 1
 r0 : P.cellsOf g0.type = 1
 r1 : g1.type = v
 hb : P.underlying g0.type = some .bool
theorem some_at {α : Type} {xs : List α} {k : Nat} (h : xs.length = n) (hk : k < n) : ∃ y, xs[k]? = some y := ⟨xs[k], List.getElem?_eq_getElem (by omega)⟩
theorem lt_of_at {fs : Array Field} {k : Nat} {f : Field} (h : fs[k]? = some f) : k < fs.size := by
 rcases Nat.lt_or_ge k fs.size with h1 | h1
 · exact h1
 · rw [Array.getElem?_eq_none (by omega)] at h; cases h
theorem open_boundC {H : Type} {enc : TypeId × Value → H} {P : Program} {t : TypeId} {fs gs ws : Array Field} {f0 f1 g0 g1 w0 w1 : Field} {x : DataW H × List MemPlace}
  (I : ItvT P t u v e fs gs f0 f1 g0 g1) (T : WholeT P v ws w0 w1 e) (hf : DataW.trod enc P W base (fun _ => true) held fuel u cs = some x) :
  ∃ n s B d l, cs = [.bool n, .bool s, .slice B (l : List Nat).length d] ∧ U64s W old B d l := by
 obtain ⟨xs, n, _, _, hl, hlen, hfs⟩ := DataW.trod_struct I.hu hf
 rw [I.hm] at hl
 have e0 := hfs 0 g0 I.k0
 have e1 := hfs 1 g1 I.k1
 obtain ⟨a, b, c, rfl⟩ : ∃ a b c, cs = [a, b, c] := by
  match cs, hl with
  | [a, b, c], _ => exact ⟨a, b, c, rfl⟩
 rw [I.q0, I.r0] at e0
 rw [I.q1, I.r1, T.hn] at e1
 simp at e0 e1
 obtain ⟨y0, z0⟩ := some_at hlen (lt_of_at I.k0)
 obtain ⟨y1, z1⟩ := some_at hlen (lt_of_at I.k1)
 rw [z0] at e0
 rw [z1] at e1
 obtain ⟨s, hs0, _⟩ := DataW.trod_bool I.hb e0
 obtain ⟨s1, v1, l, h1, B, d, rfl, hu⟩ := open_wholeC T e1
 injection hs0 with hs0 _
 injection h1 with h1 h2
 injection h2 with h2 _
 subst hs0 h1 h2
 exact ⟨_, _, _, _, _, rfl, hu⟩
theorem open_itvC {H : Type} {enc : TypeId × Value → H} {P : Program} {t : TypeId} {fs gs ws : Array Field} {f0 f1 g0 g1 w0 w1 : Field} {x : DataW H × List MemPlace}
  (I : ItvT P t u v e fs gs f0 f1 g0 g1) (T : WholeT P v ws w0 w1 e) (hf : DataW.trod enc P W base (fun _ => true) held fuel t cs = some x) :
  ∃ (p : Iv) (A : Option Addr) (a : Nat) (B : Option Addr) (b : Nat), cs = [.bool p.n0, .bool p.s0, .slice A p.l0.length a, .bool p.n1, .bool p.s1, .slice B p.l1.length b] ∧ U64s W old A a p.l0 ∧ U64s W old B b p.l1 := by
 obtain ⟨xs, n, _, _, hl, hlen, hfs⟩ := DataW.trod_struct I.ht hf
 rw [I.hn] at hl
 have e0 := hfs 0 f0 I.h0
 have e1 := hfs 1 f1 I.h1
 obtain ⟨a0, a1, a2, a3, a4, a5, rfl⟩ : ∃ a0 a1 a2 a3 a4 a5, cs = [a0, a1, a2, a3, a4, a5] := by
  match cs, hl with
  | [a0, a1, a2, a3, a4, a5], _ => exact ⟨a0, a1, a2, a3, a4, a5, rfl⟩
 rw [I.o0, I.t0, I.hm] at e0
 rw [I.o1, I.t1, I.hm] at e1
 simp at e0 e1
 obtain ⟨y0, z0⟩ := some_at hlen (lt_of_at I.h0)
 obtain ⟨y1, z1⟩ := some_at hlen (lt_of_at I.h1)
 rw [z0] at e0
 rw [z1] at e1
 obtain ⟨n0, s0, A, a, l0, h1, u1⟩ := open_boundC I T e0
 obtain ⟨n1, s1, B, b, l1, h2, u2⟩ := open_boundC I T e1
 injection h1 with h1 h3
 injection h3 with h3 h4
 injection h4 with h4 _
 injection h2 with h2 h5
 injection h5 with h5 h6
 injection h6 with h6 _
 subst h1 h2 h3 h4 h5 h6
 exact ⟨⟨n0, s0, l0, n1, s1, l1⟩, A, a, B, b, rfl, u1, u2⟩
def IsItv (w : World) (Z : Zone) (v : Value) (p : Iv) : Prop := ∃ A a B b, v = .agg #[.bool p.n0, .bool p.s0, .slice A p.l0.length a, .bool p.n1, .bool p.s1, .slice B p.l1.length b] ∧ U64s w Z A a p.l0 ∧ U64s w Z B b p.l1
theorem open_itv {H : Type} {enc : TypeId × Value → H} {P : Program} {b0 : Nat} {r : Reach} {t : TypeId} {fs gs ws : Array Field} {f0 f1 g0 g1 w0 w1 : Field} {x : Value} {d : DataW H} {p : List MemPlace}
  (I : ItvT P t u v e fs gs f0 f1 g0 g1) (T : WholeT P v ws w0 w1 e) (hw : Value.okWide P W r b0 t x) (h : DataW.Trod enc P W base (fun _ => true) held t x d p) : ∃ q, IsItv W old x q := by
 obtain ⟨cs, rfl, hsz⟩ := okWide_struct I.ht hw
 obtain ⟨fuel, hf⟩ := h
 obtain ⟨q, A, a, B, b, h1, u1, u2⟩ := open_itvC I T hf
 have e : cs = #[.bool q.n0, .bool q.s0, .slice A q.l0.length a, .bool q.n1, .bool q.s1, .slice B q.l1.length b] := by
  cases cs
  simp [Value.cells] at h1
  rw [h1]
 exact ⟨q, A, a, B, b, by rw [e], u1, u2⟩
theorem itvT_ : ∃ fs gs f0 f1 g0 g1, ItvT Tryz.prog 29 27 25 95 fs gs f0 f1 g0 g1 :=
 ⟨_, _, _, _, _, _, ⟨Tryz.underlying29, by kernel_rfl, rfl, rfl, rfl, rfl, rfl, rfl, Tryz.underlying27, by kernel_rfl, rfl, rfl, rfl, rfl, by kernel_rfl, rfl, Tryz.underlying4⟩⟩
theorem Nm.enc (h : Nm x s l) : okI s l = true ∧ zof s l = x := by
 obtain ⟨rfl, rfl⟩ := h
 refine ⟨?_, zof_z x⟩
 unfold okI
 rw [good_limbs]
 by_cases hx : x < 0
 · have : 0 < (limbs x.natAbs).length := len_pos.2 (by omega)
   simp [hx]
   intro h2
   rw [h2] at this
   simp at this
 · simp [hx]
theorem r5times_n {k : List Nat} (h1 : Nm x s l) (h2 : Nm y t k) (h3 : Nm z r m) (hz : x * y = z) (hl : l.length ≤ 90000000000) (hl2 : k.length ≤ 90000000000) (u1 : U64s w Z1 A c l) (u2 : U64s w Z2 B d k) :
  Calls Tryz.prog 98 #[.agg #[.bool s, .slice A l.length c], .agg #[.bool t, .slice B k.length d]] w fun e w' => ∃ Av cv, e = .returned (.agg #[.bool r, .slice Av m.length cv]) ∧ U64s w' (new w.heap.size) Av cv m ∧ Below w.heap.size w w' := by
 refine (r5times_good (s := s) (l := l) (t := t) (k := k) ⟨_, rfl, A, c, rfl, u1⟩ ⟨_, rfl, B, d, rfl, u2⟩ h1.enc.1 h2.enc.1 hl hl2).mono ?_
 rintro e w' ⟨v, rfl, hv, hb⟩
 rw [h1.enc.2, h2.enc.2, hz] at hv
 obtain ⟨Av, cv, rfl, hu⟩ := h3.of hv
 exact ⟨Av, cv, rfl, hu, hb⟩
theorem r5sum_n {k : List Nat} (h1 : Nm x s l) (h2 : Nm y t k) (h3 : Nm z r m) (hz : x + y = z) (hl : l.length ≤ 10000000000) (hl2 : k.length ≤ 10000000000) (u1 : U64s w Z1 A c l) (u2 : U64s w Z2 B d k) :
  Calls Tryz.prog 90 #[.agg #[.bool s, .slice A l.length c], .agg #[.bool t, .slice B k.length d]] w fun e w' => ∃ Av cv, e = .returned (.agg #[.bool r, .slice Av m.length cv]) ∧ U64s w' (new w.heap.size) Av cv m ∧ Below w.heap.size w w' := by
 refine (r5sum_good (h1.isZ u1) (h2.isZ u2) (by rw [← h1.len]; exact hl) (by rw [← h2.len]; exact hl2)).mono ?_
 rintro e w' ⟨v, rfl, hv, hb⟩
 rw [hz] at hv
 obtain ⟨Av, cv, rfl, hu⟩ := h3.of hv
 exact ⟨Av, cv, rfl, hu, hb⟩
def notOwn (v : Value) : Zone := ⟨fun b => v.ownBlock ≠ some b, False⟩
theorem U64s.growO {v v' : Value} (h : U64s w (notOwn v) A c l) (hg : w.grownBy w' v.ownBlock) (hf : Fresh w v v') : U64s w' (notOwn v') A c l := by
 have h1 := h.keep (w' := w') fun b hb hl => hg.block b hl (fun e => hb e.symm)
 refine ⟨h1.small, h1.cap, h1.max, h1.nul, fun h0 => ?_⟩
 obtain ⟨b, o, e, hb, hfz, hc⟩ := h1.row h0
 obtain ⟨b2, o2, e2, hb2, _, hc2⟩ := h.row h0
 rw [e] at e2
 injection e2 with e2
 injection e2 with e3 e4
 subst e3 e4
 have hlt := lt_of_cell (hc2 0 _ (List.getElem?_eq_getElem h0))
 refine ⟨b, o, e, fun e5 => ?_, fun h => h.elim, hc⟩
 rcases hf with h3 | h3
 · exact hb (h3.symm.trans e5)
 · have h4 := h3 b e5
   have h5 : b < w.heap.size := hlt
   omega
theorem down_case (hy : y ≠ 0) :
  (decide (x < 0) = decide (y < 0) ∧ rq x y true = ((x.natAbs / y.natAbs : Nat) : Int)) ∨
  (decide (x < 0) ≠ decide (y < 0) ∧ x.natAbs % y.natAbs = 0 ∧ rq x y true = -((x.natAbs / y.natAbs : Nat) : Int)) ∨
  (decide (x < 0) ≠ decide (y < 0) ∧ x.natAbs % y.natAbs ≠ 0 ∧ rq x y true = -((x.natAbs / y.natAbs + 1 : Nat) : Int)) := by
 by_cases hs : decide (x < 0) = decide (y < 0)
 · left
   refine ⟨hs, ?_⟩
   unfold rq tq
   rw [hs]
   simp
 · right
   have hb : (decide (x < 0) != decide (y < 0)) = true := by simpa using hs
   by_cases h0 : x.natAbs % y.natAbs = 0
   · left
     refine ⟨hs, h0, ?_⟩
     have hz : decide (0 < (limbs (x.natAbs % y.natAbs)).length) = false := decide_eq_false (by rw [len_pos]; omega)
     unfold rq tq
     rw [hz, if_neg hs]
     simp
   · right
     refine ⟨hs, h0, ?_⟩
     have hz : decide (0 < (limbs (x.natAbs % y.natAbs)).length) = true := decide_eq_true (by rw [len_pos]; omega)
     unfold rq tq
     rw [hz, hb, if_neg hs]
     simp
     omega
theorem nm_nat (n : Nat) : Nm (n : Int) false (limbs n) := ⟨(decide_eq_false (by omega)).symm, by rw [Int.natAbs_natCast]⟩
theorem nm_minus (n : Nat) : Nm (-(n : Int)) (decide (0 < (limbs n).length)) (limbs n) := by
 refine ⟨?_, by rw [Int.natAbs_neg, Int.natAbs_natCast]⟩
 rw [decide_eq_decide, len_pos]
 omega
theorem Nm.isN (h : Nm x s l) (hu : U64s w Z A c l) : IsN w Z (.slice A l.length c) x.natAbs := by
 obtain ⟨rfl, rfl⟩ := h
 exact ⟨A, c, rfl, hu⟩
theorem Nm.uniq {k : List Nat} (h : Nm x s l) (h' : Nm x t k) : s = t ∧ l = k := ⟨h.1.trans h'.1.symm, h.2.trans h'.2.symm⟩
theorem r5down_n {k : List Nat} (h1 : Nm x s l) (h2 : Nm y t k) (h3 : Nm z r m) (hz : rq x y true = z) (hy : y ≠ 0) (hl : l.length ≤ 9000) (hl2 : k.length ≤ 9000) (u1 : U64s w Z1 A c l) (u2 : U64s w Z2 B d k) :
  Calls Tryz.prog 99 #[.agg #[.bool s, .slice A l.length c], .agg #[.bool t, .slice B k.length d]] w fun e w' => ∃ Av cv, e = .returned (.agg #[.bool r, .slice Av m.length cv]) ∧ U64s w' (new w.heap.size) Av cv m ∧ Below w.heap.size w w' := by
 obtain ⟨bA, bB, bR, hB0⟩ := boxes3 w (.bool s) (.slice A l.length c) (.bool t) (.slice B k.length d) (.bool false) (.slice none 0 0) 25
 have na := h1.isN (u1.below hB0)
 have nb := h2.isN (u2.below hB0)
 have la := h1.len
 have lb := h2.len
 have hov := over_good na nb (by omega) (by omega) (by omega)
 have hq1 : (limbs (x.natAbs / y.natAbs)).length ≤ 9000 := Nat.le_trans (len_mono (Nat.div_le_self _ _)) (by omega)
 have hcase := down_case (x := x) hy
 rw [hz, ← h1.1, ← h2.1] at hcase
 have hways : (s = t ∧ r = false ∧ m = limbs (x.natAbs / y.natAbs)) ∨
   (((s = true ∧ t = false) ∨ (s = false ∧ t = true)) ∧ x.natAbs % y.natAbs = 0 ∧ r = decide (0 < (limbs (x.natAbs / y.natAbs)).length) ∧ m = limbs (x.natAbs / y.natAbs)) ∨
   (((s = true ∧ t = false) ∨ (s = false ∧ t = true)) ∧ x.natAbs % y.natAbs ≠ 0 ∧ r = true ∧ m = limbs (x.natAbs / y.natAbs + 1)) := by
  have hne : s ≠ t → (s = true ∧ t = false) ∨ (s = false ∧ t = true) := by cases s <;> cases t <;> simp
  rcases hcase with ⟨e, h⟩ | ⟨e, h0, h⟩ | ⟨e, h0, h⟩
  · rw [h] at h3
    obtain ⟨g1, g2⟩ := h3.uniq (nm_nat _)
    exact .inl ⟨e, g1, g2⟩
  · rw [h] at h3
    obtain ⟨g1, g2⟩ := h3.uniq (nm_minus _)
    exact .inr (.inl ⟨hne e, h0, g1, g2⟩)
  · rw [h] at h3
    obtain ⟨g1, g2⟩ := h3.uniq (nm_minus _)
    rw [decide_eq_true (len_pos.2 (Nat.succ_ne_zero (x.natAbs / y.natAbs)))] at g1
    exact .inr (.inr ⟨hne e, h0, g1, g2⟩)
 obtain ⟨a0, a1, _, _, _⟩ := bA
 obtain ⟨b0, b1, _, _, _⟩ := bB
 obtain ⟨Hov, HB0⟩ := hid2 hov hB0
 clear hov hcase h1 h2 h3 hz hy hl hl2 u1 u2 na nb la lb
 generalize l.length = L at *
 generalize k.length = K at *
 generalize x.natAbs / y.natAbs = q at *
 generalize x.natAbs % y.natAbs = ρ at *
 rcases hways with ⟨rfl, rfl, rfl⟩ | ⟨hst, rfl, hr, rfl⟩ | ⟨hst, hr0, rfl, rfl⟩
 · go_enter Tryz.func99, Tryz.ntmps99
   go_wp2_with fail
   refine Hov.out.mono ?_
   rintro e w1 ⟨_, v2, rfl, ⟨Av, cv, rfl, hv⟩, ⟨Ar, cr, rfl, _⟩, hc1⟩
   replace a0 := keepC hc1 a0
   replace b0 := keepC hc1 b0
   have bR1 := bR.below hc1
   have hP := bR1.put (from_ HB0.out hc1) (by omega) (.bool false) (.slice Av (limbs q).length cv)
   have hu2 := hP.keep (by simp) (⟨Av, cv, rfl, hv⟩ : IsU w1 _ (.slice Av (limbs q).length cv) (limbs q))
   obtain ⟨Hu, HP⟩ := hid2 hu2 hP
   obtain ⟨q0, q1, f0, f1, _⟩ := bR1
   clear hv hu2 hP bR HB0 a1 b1
   go_wp2
   refine bodyPost_ret (res_int rfl _ (w.heap.size + 2) rfl HP.out.c0 HP.out.c1) rfl ?_
   obtain ⟨A', c', e', hu⟩ := Hu.out
   injection e' with e1 _ e3
   subst e1 e3
   exact ⟨_, _, rfl, hu, HP.out.bel⟩
 · have e0 : limbs 0 = [] := limbs_eq_nil.2 rfl
   obtain ⟨D, hD⟩ : ∃ D, D = decide (0 < (limbs q).length) := ⟨_, rfl⟩
   have hdi : decide ((0 : Int) < ((limbs q).length : Int)) = D := by rw [hD]; exact decide_eq_decide.2 (by omega)
   have hdi2 : decide (0 < (limbs q).length) = D := hD.symm
   rw [← hD] at hr
   subst hr
   clear hD
   cases r
   all_goals
    rcases hst with ⟨rfl, rfl⟩ | ⟨rfl, rfl⟩
    all_goals
     go_enter Tryz.func99, Tryz.ntmps99
     go_wp2_with fail
     refine Hov.out.mono ?_
     rintro e w1 ⟨_, v2, rfl, ⟨Av, cv, rfl, hv⟩, ⟨Ar, cr, rfl, _⟩, hc1⟩
     rw [e0]
     replace a0 := keepC hc1 a0
     replace b0 := keepC hc1 b0
     have bR1 := bR.below hc1
     have hP := fun sz => bR1.put (from_ HB0.out hc1) (by omega) (.bool sz) (.slice Av (limbs q).length cv)
     have hu2 := fun sz => (hP sz).keep (by simp) (⟨Av, cv, rfl, hv⟩ : IsU w1 _ (.slice Av (limbs q).length cv) (limbs q))
     obtain ⟨Hu, HP⟩ := hid2 hu2 hP
     obtain ⟨q0, q1, f0, f1, _⟩ := bR1
     clear hv hu2 hP bR HB0 a1 b1
     go_wp2
     refine bodyPost_ret (res_int rfl _ (w.heap.size + 2) rfl (HP.out _).c0 (HP.out _).c1) rfl ?_
     obtain ⟨A', c', e', hu⟩ := Hu.out _
     injection e' with e1 _ e3
     subst e1 e3
     exact ⟨_, _, rfl, hu, (HP.out _).bel⟩
 · have hpos := len_pos.2 hr0
   have hdr : decide ((0 : Int) < ((limbs ρ).length : Int)) = true := decide_eq_true (by omega)
   have hpq := len_pos.2 (show q + 1 ≠ 0 by omega)
   have hdq : decide ((0 : Int) < ((limbs (q + 1)).length : Int)) = true := decide_eq_true (by omega)
   have HQ1 := hid hq1
   clear hq1 hr0
   rcases hst with ⟨rfl, rfl⟩ | ⟨rfl, rfl⟩
   all_goals
    go_enter Tryz.func99, Tryz.ntmps99
    go_wp2_with fail
    refine Hov.out.mono ?_
    rintro e w1 ⟨_, v2, rfl, hq, ⟨Ar, cr, rfl, _⟩, hc1⟩
    replace a0 := keepC hc1 a0
    replace b0 := keepC hc1 b0
    have bR1 := bR.below hc1
    have hB1 := from_ HB0.out hc1
    have hal : Below w1.heap.size w1 (w1.alloc (.cells #[.int .u64 1] 95)) := (Below.refl _ w1).alloc (Nat.le_refl _) _
    have h1 : IsN (w1.alloc (.cells #[.int .u64 1] 95)) old (.slice (some ⟨w1.heap.size, 0, none⟩) 1 1) 1 := isN_one (by omega) (by omega) (cell_newest rfl rfl)
    obtain ⟨hsm, Hal⟩ := hid2 (sum1_good (hq.below hal) h1 (by have := HQ1.out; omega) (by decide +kernel)) hal
    have hsz := bR1.lt
    obtain ⟨Av, cv, rfl, hq⟩ := hq
    clear h1 hal hq bR
    go_wp2_with fail
    refine hsm.out.mono ?_
    rintro e w2 ⟨_, rfl, ⟨Av, cv, rfl, hv⟩, hc2⟩
    have hs2 := step Hal.out hc2
    have bR2 := bR1.below hs2
    have hP := bR2.put (from_ hB1 hs2) (by omega) (.bool true) (.slice Av (limbs (q + 1)).length cv)
    have hu2 := hP.keep (by simp; omega) (⟨Av, cv, rfl, hv⟩ : IsU w2 _ (.slice Av (limbs (q + 1)).length cv) (limbs (q + 1)))
    obtain ⟨Hu, HP⟩ := hid2 hu2 hP
    obtain ⟨q0, q1, f0, f1, _⟩ := bR2
    clear hv hu2 hP HB0 a1 b1 bR1 hB1 hs2 hc2 Hal hc1
    go_wp2
    refine bodyPost_ret (res_int rfl _ (w.heap.size + 2) rfl HP.out.c0 HP.out.c1) rfl ?_
    obtain ⟨A', c', e', hu⟩ := Hu.out
    injection e' with e1 _ e3
    subst e1 e3
    exact ⟨_, _, rfl, hu, HP.out.bel⟩
theorem nm_len (h : Nm x s l) (n : Nat) (hl : l.length ≤ n) : (limbs x.natAbs).length ≤ n := by rw [← h.len]; exact hl
theorem r5turned_v (h1 : Nm x s l) (h3 : Nm z r m) (hz : -x = z) (hl : l.length ≤ 10000000000) (u1 : U64s w Z1 A c l) :
  Calls Tryz.prog 89 #[.agg #[.bool s, .slice A l.length c]] w fun e w' => ∃ Av cv, e = .returned (.agg #[.bool r, .slice Av m.length cv]) ∧ U64s w' (new w.heap.size) Av cv m ∧ Below w.heap.size w w' := by
 subst hz
 refine (r5turned_good (h1.isZ u1) (nm_len h1 _ hl)).mono ?_
 rintro e w' ⟨Bv, dv, rfl, hv, hb⟩
 obtain ⟨Av, cv, e2, hu⟩ := h3.of hv
 rw [e2]
 exact ⟨Av, cv, rfl, hu, hb⟩
theorem r5compared_w {g : Int} {k : List Nat} (h1 : Nm x s l) (h2 : Nm y t k) (hg : sgn (x - y) = g) (hl : l.length ≤ 9000) (hl2 : k.length ≤ 9000) (u1 : U64s w Z1 A c l) (u2 : U64s w Z2 B d k) :
  Calls Tryz.prog 88 #[.agg #[.bool s, .slice A l.length c], .agg #[.bool t, .slice B k.length d]] w fun e w' => e = .returned (.int .i64 g) ∧ Below w.heap.size w w' := by
 subst hg
 exact r5compared_good (h1.isZ u1) (h2.isZ u2) (nm_len h1 _ hl) (nm_len h2 _ hl2)
end Go.Proofs.YthpngihjcphigaaGreat
