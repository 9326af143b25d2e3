/-
  Intervals, the program's: the least and the greatest of places in a row; corners. No conditions but bounds on lengths.
  Intervals, the program's: corners. No conditions but bounds on lengths.
  Linear forms in memory; linear.odd, Check, checked. No conditions but bounds on lengths.
  Arguments of the statements, opened: intervals, lists of intervals, and an array of sixteen bytes. No conditions.
  The document's own answer, layer 5: Down, Floor, Ceil, Exact. No conditions but bounds on lengths.
-/
import Derived.Deep.RegionHeld3
import Derived.Test.YtennphechbngcaaMItvR
import Derived.Test.YtennphechbngcaaMFrameV
import Derived.Test.YtennphechbngcaaMWhU
import Derived.Test.YtennphechbngcaaMRefQ
import Derived.Test.YtennphechbngcaaMW5G
namespace Go.Proofs.Ytennphechbngcaa
open Go.RowKit
set_option linter.unusedVariables false
set_option linter.unusedSimpArgs false

/-- A place by its number, side, sign and words. -/
structure Pq where
  x : Int
  b : Int
  s : Bool
  l : List Nat

/-- Places in a row of memory. -/
def GivenP (w : World) (g : Nat) (ps : List Pq) : Prop :=
  ∀ j (h : j < ps.length), ∃ A c, w.cell? ⟨g, j * 3, none⟩ = some (.int .i64 ps[j].b) ∧ w.cell? ⟨g, j * 3 + 1, none⟩ = some (.bool ps[j].s) ∧ w.cell? ⟨g, j * 3 + 2, none⟩ = some (.slice A ps[j].l.length c) ∧ Pl ps[j].x ps[j].b ps[j].s ps[j].l ∧ U64s w old A c ps[j].l ∧ ps[j].l.length ≤ 9000
theorem GivenP.below {w w' : World} {g : Nat} {ps : List Pq} (h : GivenP w g ps) (hb : Below w.heap.size w w') : GivenP w' g ps := fun j hj => by
  obtain ⟨A, c, h0, h1, h2, h3, h4, h5⟩ := h j hj
  exact ⟨A, c, keepC hb h0, keepC hb h1, keepC hb h2, h3, h4.below hb, h5⟩

theorem BoxL.of3 {W : World} {g : Nat} {a b c : Value} (h : Box3 W g a b c) : BoxL W g [a, b, c] := by
  refine ⟨fun j v hv => ?_, fun j v hv => ?_, h.lt⟩ <;> rcases j with _ | _ | _ | j <;> simp at hv <;> subst hv
  · exact h.c0
  · exact h.c1
  · exact h.c2
  · exact h.f0
  · exact h.f1
  · exact h.f2
theorem BoxL.three {W : World} {g : Nat} {a b c : Value} (h : BoxL W g [a, b, c]) : Box3 W g a b c :=
  ⟨h.c 0 _ rfl, h.c 1 _ rfl, h.c 2 _ rfl, h.f 0 _ rfl, h.f 1 _ rfl, h.f 2 _ rfl, h.lt⟩
theorem Box3.set3 {W : World} {g : Nat} {a b c : Value} (h : Box3 W g a b c) (x y z : Value) : Box3 (((W.setCell ⟨g, 0, none⟩ x).setCell ⟨g, 1, none⟩ y).setCell ⟨g, 2, none⟩ z) g x y z :=
  BoxL.three ((((BoxL.of3 h).set 0 x rfl).set 1 y rfl).set 2 z rfl)
theorem Box3.oth3 {W : World} {g : Nat} {a b c : Value} (h : Box3 W g a b c) (g' : Nat) (hn : g' ≠ g) (x y z : Value) : Box3 (((W.setCell ⟨g', 0, none⟩ x).setCell ⟨g', 1, none⟩ y).setCell ⟨g', 2, none⟩ z) g a b c :=
  BoxL.three ((((BoxL.of3 h).other g' 0 hn x).other g' 1 hn y).other g' 2 hn z)

set_option maxRecDepth 100000 in
set_option maxHeartbeats 4000000 in
theorem imin_p {w : World} {g n c : Nat} {ps : List Pq} {m : Int} (h : GivenP w g ps) (hn : n = ps.length) (hl : ps.length ≤ 1000) (h1 : ∀ j (hj : j < ps.length), m ≤ ps[j].x) (h2 : ∃ j, ∃ (hj : j < ps.length), ps[j].x = m) :
    Calls Try.prog 74 #[.slice (some ⟨g, 0, none⟩) n c, .func (.func 36) #[] #[]] w fun e w' => ∃ b s l A d, e = .returned (.agg #[.int .i64 b, .bool s, .slice A l.length d]) ∧ Pl m b s l ∧ U64s w' old A d l ∧ l.length ≤ 9000 ∧ Below w.heap.size w w' := by
  subst hn
  have h0 : 0 < ps.length := by obtain ⟨j, hj, _⟩ := h2; omega
  have H1 := Lib.hid h1
  have H2 := Lib.hid h2
  obtain ⟨A0, d0, k0, k1, k2, P0, U0, L0⟩ := h 0 h0
  rw [Nat.zero_mul] at k0 k1 k2
  have hb0 : Below w.heap.size w (w.alloc (.cells #[.int .i64 0, .bool false, .slice none 0 0] 64)) := (Below.refl _ w).alloc (Nat.le_refl _) _
  have B0 := Lib.hid (Box3.new w (.int .i64 0) (.bool false) (.slice none 0 0) 64)
  have Q0 := Lib.hid (Box3.new (w.alloc (.cells #[.int .i64 0, .bool false, .slice none 0 0] 64)) (.int .i64 ps[0].b) (.bool ps[0].s) (.slice A0 ps[0].l.length d0) 64)
  have k0' := k0
  have hd : decide ((ps.length : Int) < 1) = false := decide_eq_false (by omega)
  have e0 := keepC hb0 k0
  have e1 := keepC hb0 k1
  have e2 := keepC hb0 k2
  have HB := Lib.hid hb0
  have hsz : (w.alloc (.cells #[.int .i64 0, .bool false, .slice none 0 0] 64)).heap.size = w.heap.size + 1 := by simp
  have HP0 := Lib.hid P0
  have HU0 := Lib.hid U0
  clear h1 h2 hb0 P0 U0 k0 k1 k2
  go_enter Try.func74, Try.ntmps74
  go_wp2
  go_loopw [6] (fun i wr => ∃ k : Nat, 1 ≤ k ∧ k ≤ ps.length ∧ i = .int .i64 k ∧ Below w.heap.size w wr ∧ Hid (∃ r, ∃ (hr : r < ps.length), ∃ A d, Box3 wr (w.heap.size + 1) (.int .i64 ps[r].b) (.bool ps[r].s) (.slice A ps[r].l.length d) ∧ U64s w old A d ps[r].l ∧ ∀ j (hj : j < ps.length), j < k → ps[r].x ≤ ps[j].x) ∧ Hid (Box3 wr w.heap.size (.int .i64 0) (.bool false) (.slice none 0 0))) (fun i _ => ps.length - (intOf i).toNat)
  case atStart =>
    have hb1 : Below w.heap.size w ((w.alloc (.cells #[.int .i64 0, .bool false, .slice none 0 0] 64)).alloc (.cells #[.int .i64 ps[0].b, .bool ps[0].s, .slice A0 ps[0].l.length d0] 64)) := HB.out.alloc HB.out.size _
    refine ⟨1, by omega, by omega, rfl, hb1, Lib.hid ⟨0, h0, A0, d0, ?_, HU0.out.mono (le_old _), fun j hj h => ?_⟩, Lib.hid (B0.out.alloc _)⟩
    · have := Q0.out
      rw [hsz] at this
      exact this
    · obtain rfl : j = 0 := by omega
      exact Int.le_refl _
  case round =>
    obtain ⟨k, hk1, hk, rfl, hbel, hR, hZ⟩ := hrel
    by_cases hlt : k < ps.length
    · obtain ⟨r, hr, A, d, bx, ur, hall⟩ := hR.out
      obtain ⟨A', d', c0, c1, c2, Pk, uk, lk⟩ := h k hlt
      replace c0 := keepC hbel c0
      replace c1 := keepC hbel c1
      replace c2 := keepC hbel c2
      obtain ⟨_, _, _, _, _, Pr, _, lr⟩ := (h.below hbel) r hr
      obtain ⟨gg, hgg⟩ : ∃ gg, cmpP ps[k].b ps[r].b ps[k].x ps[r].x = gg := ⟨_, rfl⟩
      have hle := cmpP_le Pk Pr
      rw [hgg] at hle
      have Hcp := Lib.hid (fun (W : World) (hb : Below wr.heap.size wr W) => icompare_p (w := W) Pk Pr (uk.below (from_ hbel hb)) (ur.below (from_ hbel hb)) (by omega) (by omega) hgg)
      have Huk := Lib.hid uk
      have Hbx := Lib.hid bx
      have Hur := Lib.hid ur
      have hw0 : w.heap.size + 1 < wr.heap.size := bx.lt
      obtain ⟨b0, b1, b2, bf0, bf1, bf2, _⟩ := bx
      have Hk0 := Lib.hid c0
      have hgl : g < w.heap.size := lt_of_cell k0'
      have hne : ¬ g = w.heap.size + 1 := by omega
      have hne2 : ¬ w.heap.size + 1 = g := by omega
      have hD := Lib.hid (show Below wr.heap.size wr wr.drew from (Below.refl _ wr).drew)
      have s0 := keepC hD.out c0
      have s1 := keepC hD.out c1
      have s2 := keepC hD.out c2
      have s3 := keepC hD.out b0
      have s4 := keepC hD.out b1
      have s5 := keepC hD.out b2
      have Hc0 := Lib.hid (And.intro c0 (And.intro c1 c2))
      by_cases hc : gg < 0
      · have hd : decide (gg < 0) = true := decide_eq_true hc
        have Hnew := Lib.hid (show ∀ j (hj : j < ps.length), j < k + 1 → ps[k].x ≤ ps[j].x from fun j hj hjk => by
          rcases Nat.lt_or_ge j k with h' | h'
          · have := hall j hj h'; omega
          · obtain rfl : j = k := by omega
            exact Int.le_refl _)
        clear hall hle hgg Pk Pr uk ur lk lr hc hR c0 c1 c2 b0 b1 b2
        have Hq : Hid (ps[k] = ps[k]) := rfl
        go_wp2
        go_region_held3 (fun w' => w'.cell? ⟨g, k * 3, none⟩ = some (.int .i64 ps[k].b) ∧ w'.cell? ⟨g, k * 3 + 1, none⟩ = some (.bool ps[k].s) ∧ w'.cell? ⟨g, k * 3 + 2, none⟩ = some (.slice A' ps[k].l.length d') ∧ w'.cell? ⟨w.heap.size + 1, 0, none⟩ = some (.int .i64 ps[r].b) ∧ w'.cell? ⟨w.heap.size + 1, 1, none⟩ = some (.bool ps[r].s) ∧ w'.cell? ⟨w.heap.size + 1, 2, none⟩ = some (.slice A ps[r].l.length d))
          (first
            | (go_keep; done)
            | exact ⟨s0, s1, s2, s3, s4, s5⟩
            | exact ⟨t0, t1, t2, t3, t4, t5⟩)
          (first
            | (go_at_call 36; with_reducible refine (Hcp.out _ hD.out).mono ?_; rintro e w1 ⟨rfl, hc⟩; have t0 := keepC hc s0; have t1 := keepC hc s1; have t2 := keepC hc s2; have t3 := keepC hc s3; have t4 := keepC hc s4; have t5 := keepC hc s5))
        all_goals
          have hb1 := Lib.hid (hD.out.trans (hc.mono hD.out.size))
          have B1 := Hbx.out.below hb1.out
          have HB3 := Lib.hid (B1.set3 (.int .i64 ps[k].b) (.bool ps[k].s) (.slice A' ps[k].l.length d'))
          have HZ3 := Lib.hid ((hZ.out.below hb1.out).oth3 (w.heap.size + 1) (by omega) (.int .i64 ps[k].b) (.bool ps[k].s) (.slice A' ps[k].l.length d'))
          have HP := Lib.hid (B1.put (from_ hbel hb1.out) (by omega) (.int .i64 ps[k].b) (.bool ps[k].s) (.slice A' ps[k].l.length d'))
          obtain ⟨_, _, _, wf0, wf1, wf2, _⟩ := B1
          go_wp2
          go_roundw
          case rel => exact ⟨k + 1, by omega, by omega, by go_num, HP.out.bel, Lib.hid ⟨k, hlt, A', d', HB3.out, Huk.out, Hnew.out⟩, HZ3⟩
          case measure => simp [intOf]; omega
      · have hd : decide (gg < 0) = false := decide_eq_false hc
        have Hnew := Lib.hid (show ∀ j (hj : j < ps.length), j < k + 1 → ps[r].x ≤ ps[j].x from fun j hj hjk => by
          rcases Nat.lt_or_ge j k with h' | h'
          · exact hall j hj h'
          · obtain rfl : j = k := by omega
            omega)
        clear hall hle hgg Pk Pr uk ur lk lr hc hR c0 c1 c2 b0 b1 b2
        have Hq : Hid (ps[k] = ps[k]) := rfl
        go_wp2
        go_region_held3 (fun w' => w'.cell? ⟨g, k * 3, none⟩ = some (.int .i64 ps[k].b) ∧ w'.cell? ⟨g, k * 3 + 1, none⟩ = some (.bool ps[k].s) ∧ w'.cell? ⟨g, k * 3 + 2, none⟩ = some (.slice A' ps[k].l.length d') ∧ w'.cell? ⟨w.heap.size + 1, 0, none⟩ = some (.int .i64 ps[r].b) ∧ w'.cell? ⟨w.heap.size + 1, 1, none⟩ = some (.bool ps[r].s) ∧ w'.cell? ⟨w.heap.size + 1, 2, none⟩ = some (.slice A ps[r].l.length d))
          (first
            | (go_keep; done)
            | exact ⟨s0, s1, s2, s3, s4, s5⟩
            | exact ⟨t0, t1, t2, t3, t4, t5⟩)
          (first
            | (go_at_call 36; with_reducible refine (Hcp.out _ hD.out).mono ?_; rintro e w1 ⟨rfl, hc⟩; have t0 := keepC hc s0; have t1 := keepC hc s1; have t2 := keepC hc s2; have t3 := keepC hc s3; have t4 := keepC hc s4; have t5 := keepC hc s5))
        all_goals
          have hb1 := Lib.hid (hD.out.trans (hc.mono hD.out.size))
          go_wp2
          go_roundw
          case rel => exact ⟨k + 1, by omega, by omega, by go_num, from_ hbel hb1.out, Lib.hid ⟨r, hr, A, d, Hbx.out.below hb1.out, Hur.out, Hnew.out⟩, Lib.hid (hZ.out.below hb1.out)⟩
          case measure => simp [intOf]; omega
    · obtain rfl : k = ps.length := by omega
      obtain ⟨r, hr, A, d, bx, ur, hall⟩ := hR.out
      obtain ⟨_, _, _, _, _, Pr, _, lr⟩ := (h.below hbel) r hr
      have hm : ps[r].x = m := by
        obtain ⟨j, hj, e⟩ := H2.out
        have e1 := hall j hj hj
        have e2 := H1.out r hr
        omega
      have HPr := Lib.hid (hm ▸ Pr)
      have Hlr := Lib.hid lr
      have Hur := Lib.hid ur
      have Hbx := Lib.hid bx
      have HP := Lib.hid (hZ.out.put hbel (Nat.le_refl _) (.int .i64 ps[r].b) (.bool ps[r].s) (.slice A ps[r].l.length d))
      obtain ⟨b0, b1, b2, bf0, bf1, bf2, _⟩ := bx
      obtain ⟨z0, z1, z2, zf0, zf1, zf2, _⟩ := hZ.out
      clear hall hm Pr lr ur
      go_wp2
      refine bodyPost_ret (res_place rfl _ w.heap.size rfl HP.out.c0 HP.out.c1 HP.out.c2) rfl ?_
      exact ⟨_, _, _, _, _, rfl, HPr.out, Hur.out.below HP.out.bel, Hlr.out, HP.out.bel⟩

set_option maxRecDepth 100000 in
set_option maxHeartbeats 4000000 in
theorem imax_p {w : World} {g n c : Nat} {ps : List Pq} {m : Int} (h : GivenP w g ps) (hn : n = ps.length) (hl : ps.length ≤ 1000) (h1 : ∀ j (hj : j < ps.length), ps[j].x ≤ m) (h2 : ∃ j, ∃ (hj : j < ps.length), ps[j].x = m) :
    Calls Try.prog 75 #[.slice (some ⟨g, 0, none⟩) n c, .func (.func 36) #[] #[]] w fun e w' => ∃ b s l A d, e = .returned (.agg #[.int .i64 b, .bool s, .slice A l.length d]) ∧ Pl m b s l ∧ U64s w' old A d l ∧ l.length ≤ 9000 ∧ Below w.heap.size w w' := by
  subst hn
  have h0 : 0 < ps.length := by obtain ⟨j, hj, _⟩ := h2; omega
  have H1 := Lib.hid h1
  have H2 := Lib.hid h2
  obtain ⟨A0, d0, k0, k1, k2, P0, U0, L0⟩ := h 0 h0
  rw [Nat.zero_mul] at k0 k1 k2
  have hb0 : Below w.heap.size w (w.alloc (.cells #[.int .i64 0, .bool false, .slice none 0 0] 64)) := (Below.refl _ w).alloc (Nat.le_refl _) _
  have B0 := Lib.hid (Box3.new w (.int .i64 0) (.bool false) (.slice none 0 0) 64)
  have Q0 := Lib.hid (Box3.new (w.alloc (.cells #[.int .i64 0, .bool false, .slice none 0 0] 64)) (.int .i64 ps[0].b) (.bool ps[0].s) (.slice A0 ps[0].l.length d0) 64)
  have k0' := k0
  have hd : decide ((ps.length : Int) < 1) = false := decide_eq_false (by omega)
  have e0 := keepC hb0 k0
  have e1 := keepC hb0 k1
  have e2 := keepC hb0 k2
  have HB := Lib.hid hb0
  have hsz : (w.alloc (.cells #[.int .i64 0, .bool false, .slice none 0 0] 64)).heap.size = w.heap.size + 1 := by simp
  have HP0 := Lib.hid P0
  have HU0 := Lib.hid U0
  clear h1 h2 hb0 P0 U0 k0 k1 k2
  go_enter Try.func75, Try.ntmps75
  go_wp2
  go_loopw [6] (fun i wr => ∃ k : Nat, 1 ≤ k ∧ k ≤ ps.length ∧ i = .int .i64 k ∧ Below w.heap.size w wr ∧ Hid (∃ r, ∃ (hr : r < ps.length), ∃ A d, Box3 wr (w.heap.size + 1) (.int .i64 ps[r].b) (.bool ps[r].s) (.slice A ps[r].l.length d) ∧ U64s w old A d ps[r].l ∧ ∀ j (hj : j < ps.length), j < k → ps[j].x ≤ ps[r].x) ∧ Hid (Box3 wr w.heap.size (.int .i64 0) (.bool false) (.slice none 0 0))) (fun i _ => ps.length - (intOf i).toNat)
  case atStart =>
    have hb1 : Below w.heap.size w ((w.alloc (.cells #[.int .i64 0, .bool false, .slice none 0 0] 64)).alloc (.cells #[.int .i64 ps[0].b, .bool ps[0].s, .slice A0 ps[0].l.length d0] 64)) := HB.out.alloc HB.out.size _
    refine ⟨1, by omega, by omega, rfl, hb1, Lib.hid ⟨0, h0, A0, d0, ?_, HU0.out.mono (le_old _), fun j hj h => ?_⟩, Lib.hid (B0.out.alloc _)⟩
    · have := Q0.out
      rw [hsz] at this
      exact this
    · obtain rfl : j = 0 := by omega
      exact Int.le_refl _
  case round =>
    obtain ⟨k, hk1, hk, rfl, hbel, hR, hZ⟩ := hrel
    by_cases hlt : k < ps.length
    · obtain ⟨r, hr, A, d, bx, ur, hall⟩ := hR.out
      obtain ⟨A', d', c0, c1, c2, Pk, uk, lk⟩ := h k hlt
      replace c0 := keepC hbel c0
      replace c1 := keepC hbel c1
      replace c2 := keepC hbel c2
      obtain ⟨_, _, _, _, _, Pr, _, lr⟩ := (h.below hbel) r hr
      obtain ⟨gg, hgg⟩ : ∃ gg, cmpP ps[k].b ps[r].b ps[k].x ps[r].x = gg := ⟨_, rfl⟩
      have hle := cmpP_le Pk Pr
      rw [hgg] at hle
      have Hcp := Lib.hid (fun (W : World) (hb : Below wr.heap.size wr W) => icompare_p (w := W) Pk Pr (uk.below (from_ hbel hb)) (ur.below (from_ hbel hb)) (by omega) (by omega) hgg)
      have Huk := Lib.hid uk
      have Hbx := Lib.hid bx
      have Hur := Lib.hid ur
      have hw0 : w.heap.size + 1 < wr.heap.size := bx.lt
      obtain ⟨b0, b1, b2, bf0, bf1, bf2, _⟩ := bx
      have Hk0 := Lib.hid c0
      have hgl : g < w.heap.size := lt_of_cell k0'
      have hne : ¬ g = w.heap.size + 1 := by omega
      have hne2 : ¬ w.heap.size + 1 = g := by omega
      have hD := Lib.hid (show Below wr.heap.size wr wr.drew from (Below.refl _ wr).drew)
      have s0 := keepC hD.out c0
      have s1 := keepC hD.out c1
      have s2 := keepC hD.out c2
      have s3 := keepC hD.out b0
      have s4 := keepC hD.out b1
      have s5 := keepC hD.out b2
      have Hc0 := Lib.hid (And.intro c0 (And.intro c1 c2))
      by_cases hc : 0 < gg
      · have hd : decide (0 < gg) = true := decide_eq_true hc
        have Hnew := Lib.hid (show ∀ j (hj : j < ps.length), j < k + 1 → ps[j].x ≤ ps[k].x from fun j hj hjk => by
          rcases Nat.lt_or_ge j k with h' | h'
          · have := hall j hj h'; omega
          · obtain rfl : j = k := by omega
            exact Int.le_refl _)
        clear hall hle hgg Pk Pr uk ur lk lr hc hR c0 c1 c2 b0 b1 b2
        have Hq : Hid (ps[k] = ps[k]) := rfl
        go_wp2
        go_region_held3 (fun w' => w'.cell? ⟨g, k * 3, none⟩ = some (.int .i64 ps[k].b) ∧ w'.cell? ⟨g, k * 3 + 1, none⟩ = some (.bool ps[k].s) ∧ w'.cell? ⟨g, k * 3 + 2, none⟩ = some (.slice A' ps[k].l.length d') ∧ w'.cell? ⟨w.heap.size + 1, 0, none⟩ = some (.int .i64 ps[r].b) ∧ w'.cell? ⟨w.heap.size + 1, 1, none⟩ = some (.bool ps[r].s) ∧ w'.cell? ⟨w.heap.size + 1, 2, none⟩ = some (.slice A ps[r].l.length d))
          (first
            | (go_keep; done)
            | exact ⟨s0, s1, s2, s3, s4, s5⟩
            | exact ⟨t0, t1, t2, t3, t4, t5⟩)
          (first
            | (go_at_call 36; with_reducible refine (Hcp.out _ hD.out).mono ?_; rintro e w1 ⟨rfl, hc⟩; have t0 := keepC hc s0; have t1 := keepC hc s1; have t2 := keepC hc s2; have t3 := keepC hc s3; have t4 := keepC hc s4; have t5 := keepC hc s5))
        all_goals
          have hb1 := Lib.hid (hD.out.trans (hc.mono hD.out.size))
          have B1 := Hbx.out.below hb1.out
          have HB3 := Lib.hid (B1.set3 (.int .i64 ps[k].b) (.bool ps[k].s) (.slice A' ps[k].l.length d'))
          have HZ3 := Lib.hid ((hZ.out.below hb1.out).oth3 (w.heap.size + 1) (by omega) (.int .i64 ps[k].b) (.bool ps[k].s) (.slice A' ps[k].l.length d'))
          have HP := Lib.hid (B1.put (from_ hbel hb1.out) (by omega) (.int .i64 ps[k].b) (.bool ps[k].s) (.slice A' ps[k].l.length d'))
          obtain ⟨_, _, _, wf0, wf1, wf2, _⟩ := B1
          go_wp2
          go_roundw
          case rel => exact ⟨k + 1, by omega, by omega, by go_num, HP.out.bel, Lib.hid ⟨k, hlt, A', d', HB3.out, Huk.out, Hnew.out⟩, HZ3⟩
          case measure => simp [intOf]; omega
      · have hd : decide (0 < gg) = false := decide_eq_false hc
        have Hnew := Lib.hid (show ∀ j (hj : j < ps.length), j < k + 1 → ps[j].x ≤ ps[r].x from fun j hj hjk => by
          rcases Nat.lt_or_ge j k with h' | h'
          · exact hall j hj h'
          · obtain rfl : j = k := by omega
            omega)
        clear hall hle hgg Pk Pr uk ur lk lr hc hR c0 c1 c2 b0 b1 b2
        have Hq : Hid (ps[k] = ps[k]) := rfl
        go_wp2
        go_region_held3 (fun w' => w'.cell? ⟨g, k * 3, none⟩ = some (.int .i64 ps[k].b) ∧ w'.cell? ⟨g, k * 3 + 1, none⟩ = some (.bool ps[k].s) ∧ w'.cell? ⟨g, k * 3 + 2, none⟩ = some (.slice A' ps[k].l.length d') ∧ w'.cell? ⟨w.heap.size + 1, 0, none⟩ = some (.int .i64 ps[r].b) ∧ w'.cell? ⟨w.heap.size + 1, 1, none⟩ = some (.bool ps[r].s) ∧ w'.cell? ⟨w.heap.size + 1, 2, none⟩ = some (.slice A ps[r].l.length d))
          (first
            | (go_keep; done)
            | exact ⟨s0, s1, s2, s3, s4, s5⟩
            | exact ⟨t0, t1, t2, t3, t4, t5⟩)
          (first
            | (go_at_call 36; with_reducible refine (Hcp.out _ hD.out).mono ?_; rintro e w1 ⟨rfl, hc⟩; have t0 := keepC hc s0; have t1 := keepC hc s1; have t2 := keepC hc s2; have t3 := keepC hc s3; have t4 := keepC hc s4; have t5 := keepC hc s5))
        all_goals
          have hb1 := Lib.hid (hD.out.trans (hc.mono hD.out.size))
          go_wp2
          go_roundw
          case rel => exact ⟨k + 1, by omega, by omega, by go_num, from_ hbel hb1.out, Lib.hid ⟨r, hr, A, d, Hbx.out.below hb1.out, Hur.out, Hnew.out⟩, Lib.hid (hZ.out.below hb1.out)⟩
          case measure => simp [intOf]; omega
    · obtain rfl : k = ps.length := by omega
      obtain ⟨r, hr, A, d, bx, ur, hall⟩ := hR.out
      obtain ⟨_, _, _, _, _, Pr, _, lr⟩ := (h.below hbel) r hr
      have hm : ps[r].x = m := by
        obtain ⟨j, hj, e⟩ := H2.out
        have e1 := hall j hj hj
        have e2 := H1.out r hr
        omega
      have HPr := Lib.hid (hm ▸ Pr)
      have Hlr := Lib.hid lr
      have Hur := Lib.hid ur
      have Hbx := Lib.hid bx
      have HP := Lib.hid (hZ.out.put hbel (Nat.le_refl _) (.int .i64 ps[r].b) (.bool ps[r].s) (.slice A ps[r].l.length d))
      obtain ⟨b0, b1, b2, bf0, bf1, bf2, _⟩ := bx
      obtain ⟨z0, z1, z2, zf0, zf1, zf2, _⟩ := hZ.out
      clear hall hm Pr lr ur
      go_wp2
      refine bodyPost_ret (res_place rfl _ w.heap.size rfl HP.out.c0 HP.out.c1 HP.out.c2) rfl ?_
      exact ⟨_, _, _, _, _, rfl, HPr.out, Hur.out.below HP.out.bel, Hlr.out, HP.out.bel⟩

end Go.Proofs.Ytennphechbngcaa

namespace Go.Proofs.Ytennphechbngcaa
open Go.RowKit
set_option linter.unusedVariables false
set_option linter.unusedSimpArgs false


set_option maxRecDepth 100000 in
set_option maxHeartbeats 4000000 in
theorem icorners_p {w : World} {g n c : Nat} {ps : List Pq} {m M : Int} (h : GivenP w g ps) (hn : n = ps.length) (hl : ps.length ≤ 1000) (h1 : ∀ j (hj : j < ps.length), m ≤ ps[j].x) (h2 : ∃ j, ∃ (hj : j < ps.length), ps[j].x = m) (h3 : ∀ j (hj : j < ps.length), ps[j].x ≤ M) (h4 : ∃ j, ∃ (hj : j < ps.length), ps[j].x = M)
    (gm : m < bigZ) (gM : -bigZ < M) {n0 s0 n1 s1 : Bool} {l0 l1 : List Nat} (e0 : n0 = nLo m ∧ s0 = sE m ∧ l0 = lE m) (e1 : n1 = nHi M ∧ s1 = sE M ∧ l1 = lE M) :
    Calls Try.prog 48 #[.slice (some ⟨g, 0, none⟩) n c] w fun e w' => ∃ A1 c1 A2 c2, e = .returned (.agg #[.bool n0, .bool s0, .slice A1 l0.length c1, .bool n1, .bool s1, .slice A2 l1.length c2]) ∧ U64s w' (new w.heap.size) A1 c1 l0 ∧ U64s w' (new w.heap.size) A2 c2 l1 ∧ Below w.heap.size w w' := by
  have hb0 : Below w.heap.size w (w.alloc (.cells #[.bool false, .bool false, .slice none 0 0, .bool false, .bool false, .slice none 0 0] 29)) := (Below.refl _ w).alloc (Nat.le_refl _) _
  have HB := Lib.hid hb0
  have hB := Lib.hid (Box6.new w (.bool false) (.bool false) (.slice none 0 0) (.bool false) (.bool false) (.slice none 0 0) 29)
  have MI := Lib.hid (imin_p (c := c) (h.below hb0) hn hl h1 h2)
  have HH := Lib.hid h
  have H3 := Lib.hid h3
  have H4 := Lib.hid h4
  have Hn := Lib.hid hn
  have E1 := Lib.hid e1
  clear h h1 h2 h3 h4 hb0 hn e1
  go_enter Try.func48, Try.ntmps48
  go_wp2_with fail
  refine MI.out.mono ?_
  rintro e w1 ⟨b, s, l, A, d, rfl, P, u, ln, hc1⟩
  have hs' := P.uniq.2.1
  have hl' := P.uniq.2.2
  have hb' := (P.nlo gm).trans e0.1.symm
  obtain rfl : s = s0 := hs'.trans e0.2.1.symm
  obtain rfl : l = l0 := hl'.trans e0.2.2.symm
  have H1 := Lib.hid (from_ HB.out hc1)
  have B1 := Lib.hid (hB.out.below hc1)
  have C1 := Lib.hid (ibound_p P hb' u (by omega))
  clear P u hs' hl' hb' e0
  go_wp2_with fail
  refine C1.out.mono ?_
  rintro e w2 ⟨A1, c1, rfl, u1, hc2⟩
  have H2 := Lib.hid (from_ H1.out hc2)
  have B2 := Lib.hid (B1.out.below hc2)
  have Hu1 := Lib.hid u1
  have MA := Lib.hid (imax_p (c := c) (HH.out.below H2.out) Hn.out hl H3.out H4.out)
  clear u1
  go_wp2_with fail
  refine MA.out.mono ?_
  rintro e w3 ⟨b', t, k, A', d', rfl, P, u, ln', hc3⟩
  have hs' := P.uniq.2.1
  have hl' := P.uniq.2.2
  have hb' := (P.nhi gM).trans E1.out.1.symm
  obtain rfl : t = s1 := hs'.trans E1.out.2.1.symm
  obtain rfl : k = l1 := hl'.trans E1.out.2.2.symm
  have H3' := Lib.hid (from_ H2.out hc3)
  have B3 := Lib.hid (B2.out.below hc3)
  have C2 := Lib.hid (ibound_p P hb' u (by omega))
  have Hu2 := Lib.hid (Hu1.out.below hc3)
  clear P u hs' hl' hb' E1
  go_wp2_with fail
  refine C2.out.mono ?_
  rintro e w4 ⟨A2, c2, rfl, u2, hc4⟩
  have B4 := B3.out.below hc4
  have z1 := B1.out.lt
  have z3 := B3.out.lt
  have HP := Lib.hid (B4.put (from_ H3'.out hc4) (Nat.le_refl _) (.bool n0) (.bool s) (.slice A1 l.length c1) (.bool n1) (.bool t) (.slice A2 k.length c2))
  have U1 := Lib.hid (((Hu2.out.below hc4).set6 (g := w.heap.size) (fun (h : w1.heap.size ≤ w.heap.size) => by omega) (.bool n0) (.bool s) (.slice A1 l.length c1) (.bool n1) (.bool t) (.slice A2 k.length c2)).mono (new_le (Nat.le_of_lt z1)))
  have U2 := Lib.hid ((u2.set6 (g := w.heap.size) (fun (h : w3.heap.size ≤ w.heap.size) => by omega) (.bool n0) (.bool s) (.slice A1 l.length c1) (.bool n1) (.bool t) (.slice A2 k.length c2)).mono (new_le (Nat.le_of_lt z3)))
  obtain ⟨q0, q1, q2, q3, q4, q5, f0, f1, f2, f3, f4, f5, _⟩ := B4
  clear u2 hc1 hc2 hc3 hc4 z1 z3
  go_wp2
  refine bodyPost_ret (res_itv rfl _ w.heap.size rfl HP.out.box) rfl ?_
  exact ⟨_, _, _, _, rfl, U1.out, U2.out, HP.out.bel⟩

end Go.Proofs.Ytennphechbngcaa

namespace Go.Proofs.Ytennphechbngcaa
open Go.RowKit
set_option linter.unusedVariables false
set_option linter.unusedSimpArgs false

/-- Rows of intervals in memory. -/
structure IvsAt (w : World) (Z : Zone) (A : Option Addr) (c : Nat) (ps : List Iv) : Prop where
  cap : ps.length ≤ c
  max : c ≤ 9223372036854775807
  row : 0 < ps.length → ∃ b o, A = some ⟨b, o, none⟩ ∧ b < w.heap.size ∧
    ∀ j (hj : j < ps.length), ∃ A0 d0 A1 d1, (w.cell? ⟨b, o + j * 6, none⟩ = some (.bool ps[j].n0) ∧ w.cell? ⟨b, o + j * 6 + 1, none⟩ = some (.bool ps[j].s0) ∧ w.cell? ⟨b, o + j * 6 + 2, none⟩ = some (.slice A0 ps[j].l0.length d0) ∧ w.cell? ⟨b, o + j * 6 + 3, none⟩ = some (.bool ps[j].n1) ∧ w.cell? ⟨b, o + j * 6 + 4, none⟩ = some (.bool ps[j].s1) ∧ w.cell? ⟨b, o + j * 6 + 5, none⟩ = some (.slice A1 ps[j].l1.length d1)) ∧ U64s w Z A0 d0 ps[j].l0 ∧ U64s w Z A1 d1 ps[j].l1
theorem IvsAt.nil (w : World) (Z : Zone) : IvsAt w Z none 0 [] := ⟨by simp, by omega, fun h => absurd h (by simp)⟩
theorem IvsAt.below {w w' : World} {Z : Zone} {A : Option Addr} {c : Nat} {ps : List Iv} (h : IvsAt w Z A c ps) (hb : Below w.heap.size w w') : IvsAt w' Z A c ps := by
  refine ⟨h.cap, h.max, fun h0 => ?_⟩
  obtain ⟨b, o, e, h2, h4⟩ := h.row h0
  refine ⟨b, o, e, Nat.lt_of_lt_of_le h2 hb.size, fun j hj => ?_⟩
  obtain ⟨A0, d0, A1, d1, ⟨c0, c1, c2, c3, c4, c5⟩, u0, u1⟩ := h4 j hj
  exact ⟨A0, d0, A1, d1, ⟨keepC hb c0, keepC hb c1, keepC hb c2, keepC hb c3, keepC hb c4, keepC hb c5⟩, u0.below hb, u1.below hb⟩
theorem IvsAt.mono {w : World} {Z Y : Zone} {A : Option Addr} {c : Nat} {ps : List Iv} (h : IvsAt w Z A c ps) (hz : Z.le Y) : IvsAt w Y A c ps := by
  refine ⟨h.cap, h.max, fun h0 => ?_⟩
  obtain ⟨b, o, e, h2, h4⟩ := h.row h0
  refine ⟨b, o, e, h2, fun j hj => ?_⟩
  obtain ⟨A0, d0, A1, d1, hc, u0, u1⟩ := h4 j hj
  exact ⟨A0, d0, A1, d1, hc, u0.mono hz, u1.mono hz⟩
theorem IvsAt.len {w : World} {Z : Zone} {A : Option Addr} {c : Nat} {ps : List Iv} (h : IvsAt w Z A c ps) : ps.length ≤ 9223372036854775807 := Nat.le_trans h.cap h.max
theorem IvsAt.at {w : World} {Z : Zone} {A : Option Addr} {c : Nat} {ps : List Iv} (h : IvsAt w Z A c ps) {j : Nat} (hj : j < ps.length) :
    ∃ b o A0 d0 A1 d1, A = some ⟨b, o, none⟩ ∧ b < w.heap.size ∧ (w.cell? ⟨b, o + j * 6, none⟩ = some (.bool ps[j].n0) ∧ w.cell? ⟨b, o + j * 6 + 1, none⟩ = some (.bool ps[j].s0) ∧ w.cell? ⟨b, o + j * 6 + 2, none⟩ = some (.slice A0 ps[j].l0.length d0) ∧ w.cell? ⟨b, o + j * 6 + 3, none⟩ = some (.bool ps[j].n1) ∧ w.cell? ⟨b, o + j * 6 + 4, none⟩ = some (.bool ps[j].s1) ∧ w.cell? ⟨b, o + j * 6 + 5, none⟩ = some (.slice A1 ps[j].l1.length d1)) ∧ U64s w Z A0 d0 ps[j].l0 ∧ U64s w Z A1 d1 ps[j].l1 := by
  obtain ⟨b, o, e, h2, h4⟩ := h.row (by omega)
  obtain ⟨A0, d0, A1, d1, h⟩ := h4 j hj
  exact ⟨b, o, A0, d0, A1, d1, e, h2, h⟩
theorem IvsAt.small {w : World} {Z : Zone} {A : Option Addr} {c : Nat} {ps : List Iv} (h : IvsAt w Z A c ps) : ∀ p ∈ ps, Small p.l0 ∧ Small p.l1 := fun p hp => by
  obtain ⟨j, hj, rfl⟩ := List.getElem_of_mem hp
  obtain ⟨_, _, _, _, _, _, _, _, _, u0, u1⟩ := h.at hj
  exact ⟨u0.small, u1.small⟩
end Go.Proofs.Ytennphechbngcaa

namespace Go.Proofs.Ytennphechbngcaa
open Go.ChangeShapes Go.WideShapes Go.ChangeAt Go.RowKit
set_option linter.unusedVariables false
set_option linter.unusedSimpArgs false

/-- What is known of the types of ends and of intervals. -/
structure ItvT (P : Program) (t u v e : TypeId) (fs gs : Array Field) (f0 f1 g0 g1 : Field) : Prop where
  ht : P.underlying t = some (.struct fs)
  hn : P.cellsOf t = 6
  h0 : fs[0]? = some f0
  h1 : fs[1]? = some f1
  o0 : f0.offset = 0
  o1 : f1.offset = 3
  t0 : f0.type = u
  t1 : f1.type = u
  hu : P.underlying u = some (.struct gs)
  hm : P.cellsOf u = 3
  k0 : gs[0]? = some g0
  k1 : gs[1]? = some g1
  q0 : g0.offset = 0
  q1 : g1.offset = 1
  r0 : P.cellsOf g0.type = 1
  r1 : g1.type = v
  hb : P.underlying g0.type = some .bool

theorem some_at {α : Type} {xs : List α} {k n : Nat} (h : xs.length = n) (hk : k < n) : ∃ y, xs[k]? = some y := ⟨xs[k], List.getElem?_eq_getElem (by omega)⟩
theorem lt_of_at {fs : Array Field} {k : Nat} {f : Field} (h : fs[k]? = some f) : k < fs.size := by
  rcases Nat.lt_or_ge k fs.size with h1 | h1
  · exact h1
  · rw [Array.getElem?_eq_none (by omega)] at h; cases h

theorem open_boundC {H : Type} {enc : TypeId × Value → H} {P : Program} {W : World} {base : Nat} {held : Bool} {t u v e : TypeId} {fs gs ws : Array Field} {f0 f1 g0 g1 w0 w1 : Field} {fuel : Nat} {cs : List Value} {x : DataW H × List MemPlace}
    (I : ItvT P t u v e fs gs f0 f1 g0 g1) (T : WholeT P v ws w0 w1 e) (hf : DataW.trod enc P W base (fun _ => true) held fuel u cs = some x) :
    ∃ n s B d l, cs = [.bool n, .bool s, .slice B (l : List Nat).length d] ∧ U64s W old B d l := by
  obtain ⟨xs, n, _, _, hl, hlen, hfs⟩ := DataW.trod_struct I.hu hf
  rw [I.hm] at hl
  have e0 := hfs 0 g0 I.k0
  have e1 := hfs 1 g1 I.k1
  obtain ⟨a, b, c, rfl⟩ : ∃ a b c, cs = [a, b, c] := by
    match cs, hl with
    | [a, b, c], _ => exact ⟨a, b, c, rfl⟩
  rw [I.q0, I.r0] at e0
  rw [I.q1, I.r1, T.hn] at e1
  simp at e0 e1
  obtain ⟨y0, z0⟩ := some_at hlen (lt_of_at I.k0)
  obtain ⟨y1, z1⟩ := some_at hlen (lt_of_at I.k1)
  rw [z0] at e0
  rw [z1] at e1
  obtain ⟨s, hs0, _⟩ := DataW.trod_bool I.hb e0
  obtain ⟨s1, v1, l, h1, B, d, rfl, hu⟩ := open_wholeC T e1
  injection hs0 with hs0 _
  injection h1 with h1 h2
  injection h2 with h2 _
  subst hs0 h1 h2
  exact ⟨_, _, _, _, _, rfl, hu⟩

theorem open_itvC {H : Type} {enc : TypeId × Value → H} {P : Program} {W : World} {base : Nat} {held : Bool} {t u v e : TypeId} {fs gs ws : Array Field} {f0 f1 g0 g1 w0 w1 : Field} {fuel : Nat} {cs : List Value} {x : DataW H × List MemPlace}
    (I : ItvT P t u v e fs gs f0 f1 g0 g1) (T : WholeT P v ws w0 w1 e) (hf : DataW.trod enc P W base (fun _ => true) held fuel t cs = some x) :
    ∃ (p : Iv) (A : Option Addr) (a : Nat) (B : Option Addr) (b : Nat), cs = [.bool p.n0, .bool p.s0, .slice A p.l0.length a, .bool p.n1, .bool p.s1, .slice B p.l1.length b] ∧ U64s W old A a p.l0 ∧ U64s W old B b p.l1 := by
  obtain ⟨xs, n, _, _, hl, hlen, hfs⟩ := DataW.trod_struct I.ht hf
  rw [I.hn] at hl
  have e0 := hfs 0 f0 I.h0
  have e1 := hfs 1 f1 I.h1
  obtain ⟨a0, a1, a2, a3, a4, a5, rfl⟩ : ∃ a0 a1 a2 a3 a4 a5, cs = [a0, a1, a2, a3, a4, a5] := by
    match cs, hl with
    | [a0, a1, a2, a3, a4, a5], _ => exact ⟨a0, a1, a2, a3, a4, a5, rfl⟩
  rw [I.o0, I.t0, I.hm] at e0
  rw [I.o1, I.t1, I.hm] at e1
  simp at e0 e1
  obtain ⟨y0, z0⟩ := some_at hlen (lt_of_at I.h0)
  obtain ⟨y1, z1⟩ := some_at hlen (lt_of_at I.h1)
  rw [z0] at e0
  rw [z1] at e1
  obtain ⟨n0, s0, A, a, l0, h1, u1⟩ := open_boundC I T e0
  obtain ⟨n1, s1, B, b, l1, h2, u2⟩ := open_boundC I T e1
  injection h1 with h1 h3
  injection h3 with h3 h4
  injection h4 with h4 _
  injection h2 with h2 h5
  injection h5 with h5 h6
  injection h6 with h6 _
  subst h1 h2 h3 h4 h5 h6
  exact ⟨⟨n0, s0, l0, n1, s1, l1⟩, A, a, B, b, rfl, u1, u2⟩

/-- An interval in memory. -/
def IsItv (w : World) (Z : Zone) (v : Value) (p : Iv) : Prop := ∃ A a B b, v = .agg #[.bool p.n0, .bool p.s0, .slice A p.l0.length a, .bool p.n1, .bool p.s1, .slice B p.l1.length b] ∧ U64s w Z A a p.l0 ∧ U64s w Z B b p.l1

theorem open_itv {H : Type} {enc : TypeId × Value → H} {P : Program} {W : World} {base b0 : Nat} {held : Bool} {r : Reach} {t u v e : TypeId} {fs gs ws : Array Field} {f0 f1 g0 g1 w0 w1 : Field} {x : Value} {d : DataW H} {p : List MemPlace}
    (I : ItvT P t u v e fs gs f0 f1 g0 g1) (T : WholeT P v ws w0 w1 e) (hw : Value.okWide P W r b0 t x) (h : DataW.Trod enc P W base (fun _ => true) held t x d p) : ∃ q, IsItv W old x q := by
  obtain ⟨cs, rfl, hsz⟩ := okWide_struct I.ht hw
  obtain ⟨fuel, hf⟩ := h
  obtain ⟨q, A, a, B, b, h1, u1, u2⟩ := open_itvC I T hf
  have e : cs = #[.bool q.n0, .bool q.s0, .slice A q.l0.length a, .bool q.n1, .bool q.s1, .slice B q.l1.length b] := by
    cases cs
    simp [Value.cells] at h1
    rw [h1]
  exact ⟨q, A, a, B, b, by rw [e], u1, u2⟩

theorem itvT_ : ∃ fs gs f0 f1 g0 g1, ItvT Try.prog 29 27 25 99 fs gs f0 f1 g0 g1 :=
  ⟨_, _, _, _, _, _, ⟨Try.underlying29, by kernel_rfl, rfl, rfl, rfl, rfl, rfl, rfl, Try.underlying27, by kernel_rfl, rfl, rfl, rfl, rfl, by kernel_rfl, rfl, Try.underlying4⟩⟩

end Go.Proofs.Ytennphechbngcaa

namespace Go.Proofs.Ytennphechbngcaa
open Go.RowKit
set_option linter.unusedVariables false
set_option linter.unusedSimpArgs false

theorem Nm.uniq {x : Int} {s t : Bool} {l k : List Nat} (h : Nm x s l) (h' : Nm x t k) : s = t ∧ l = k := ⟨h.1.trans h'.1.symm, h.2.trans h'.2.symm⟩


theorem nm_len {x : Int} {s : Bool} {l : List Nat} (h : Nm x s l) (n : Nat) (hl : l.length ≤ n) : (limbs x.natAbs).length ≤ n := by rw [← h.len]; exact hl

theorem r5turned_v {w : World} {Z1 : Zone} {x z : Int} {s r : Bool} {l m : List Nat} {A : Option Addr} {c : Nat} (h1 : Nm x s l) (h3 : Nm z r m) (hz : -x = z) (hl : l.length ≤ 10000000000) (u1 : U64s w Z1 A c l) :
    Calls Try.prog 94 #[.agg #[.bool s, .slice A l.length c]] w fun e w' => ∃ Av cv, e = .returned (.agg #[.bool r, .slice Av m.length cv]) ∧ U64s w' (new w.heap.size) Av cv m ∧ Below w.heap.size w w' := by
  subst hz
  refine (r5turned_good (h1.isZ u1) (nm_len h1 _ hl)).mono ?_
  rintro e w' ⟨Bv, dv, rfl, hv, hb⟩
  obtain ⟨Av, cv, e2, hu⟩ := h3.of hv
  rw [e2]
  exact ⟨Av, cv, rfl, hu, hb⟩
end Go.Proofs.Ytennphechbngcaa
