/- Whole numbers: Neg, at any sign and words. No conditions but bounds on lengths. -/
import Derived.Deep.RegionWith
import Derived.Test.YtcheajjjdbllfaaGreatNWhF
import Derived.Test.YtcheajjjdbllfaaGreatNClone
set_option linter.unusedVariables false
set_option linter.unusedSimpArgs false
set_option maxRecDepth 100000
set_option maxHeartbeats 40000000
namespace Go.Proofs.YtcheajjjdbllfaaGreat
open Go.Lib (hid)
open Go.RowKit
variable {Y Z : Zone} {a b : Value} {s t : Bool} {w : World}
theorem wsub_all {l k : List Nat} (ha : IsI w Z a s l) (hb : IsI w Y b t k) (hl : l.length ≤ 90000000000) (hl2 : k.length ≤ 90000000000) :
  Calls Tryz.prog 109 #[a, b] w fun e w' => ∃ v, e = .returned (.tuple #[v, .int .i64 (errO s l t k)]) ∧ IsI w' (new w.heap.size) v (opP (· - ·) s l t k).1 (opP (· - ·) s l t k).2 ∧ Below w.heap.size w w' := by
 obtain ⟨_, rfl, A, ca, rfl, hu⟩ := ha
 obtain ⟨_, rfl, B, cb, rfl, hv⟩ := hb
 obtain ⟨bA, bB, bR, hB0⟩ := boxes3 w (.bool s) (.slice A l.length ca) (.bool t) (.slice B k.length cb) (.bool false) (.slice none 0 0) 25
 have ua : IsU w Z (.slice A l.length ca) l := ⟨A, ca, rfl, hu⟩
 have ub : IsU w Y (.slice B k.length cb) k := ⟨B, cb, rfl, hv⟩
 have hg := given_twoI (s := s) (t := t) (ty := 25) (ua.below hB0) (ub.below hB0)
 have hg2 : (((w.alloc (.cells #[.bool s, .slice A l.length ca] 25)).alloc (.cells #[.bool t, .slice B k.length cb] 25)).alloc (.cells #[.bool false, .slice none 0 0] 25)).heap.size = w.heap.size + 3 := by simp
 rw [hg2] at hg
 have hck := wchecked_any (n := 2) (c := 2) hg rfl (by simp)
 rw [errCs_two] at hck
 have hsa := hu.small
 have hsb := hv.small
 clear hg hg2 hu hv
 have hb1 := hB0.alloc hB0.size (.cells #[.bool s, .slice A l.length ca, .bool t, .slice B k.length cb] 25)
 by_cases hok : okI s l = true ∧ okI t k = true
 · have e1 : errO s l t k = 0 := by simp [errO, hok]
   have e2 : opP (· - ·) s l t k = (decide ((· - ·) (zof s l) (zof t k) < 0), limbs ((· - ·) (zof s l) (zof t k)).natAbs) := by simp [opP, hok]
   rw [e1] at hck ⊢
   rw [e2]
   have nza := IsI.num ⟨_, rfl, ua⟩ hok.1
   have nzb := IsI.num ⟨_, rfl, ub⟩ hok.2
   have q1 := len_zof hok.1 hsa
   have q2 := len_zof hok.2 hsb
   obtain ⟨Hck, Hok⟩ := hid2 hck hok
   clear hck e1 e2 hok
   obtain ⟨a0, a1, _, _, _⟩ := bA
   obtain ⟨b0, b1, _, _, _⟩ := bB
   go_enter Tryz.func109, Tryz.ntmps109
   go_wp2_with fail
   refine Hck.out.mono ?_
   rintro e w1 ⟨rfl, hc1⟩
   have bR1 := (bR.alloc (.cells #[.bool s, .slice A l.length ca, .bool t, .slice B k.length cb] 25)).below hc1
   have a0 := keepC (Below.refl_alloc hB0 (.cells #[.bool s, .slice A l.length ca, .bool t, .slice B k.length cb] 25)) a0
   have a1 := keepC (Below.refl_alloc hB0 (.cells #[.bool s, .slice A l.length ca, .bool t, .slice B k.length cb] 25)) a1
   have b0 := keepC (Below.refl_alloc hB0 (.cells #[.bool s, .slice A l.length ca, .bool t, .slice B k.length cb] 25)) b0
   have b1 := keepC (Below.refl_alloc hB0 (.cells #[.bool s, .slice A l.length ca, .bool t, .slice B k.length cb] 25)) b1
   have a0 := keepC hc1 a0
   have a1 := keepC hc1 a1
   have b0 := keepC hc1 b0
   have b1 := keepC hc1 b1
   have hB1 := from_ hb1 hc1
   clear bR hB0 hb1 Hck
   obtain ⟨n1, n2⟩ := neg_enc Hok.out.2 hsb
   obtain ⟨sy, hsy⟩ : ∃ sy, sy = decide (-zof t k < 0) := ⟨_, rfl⟩
   obtain ⟨z, hz⟩ : ∃ z, z = zof s l + -zof t k := ⟨_, rfl⟩
   obtain ⟨sz, hsz⟩ : ∃ sz, sz = decide (z < 0) := ⟨_, rfl⟩
   obtain ⟨m, hm⟩ : ∃ m, m = z.natAbs := ⟨_, rfl⟩
   rw [← hsy] at n1
   obtain ⟨Hn1, Hn2⟩ := hid2 n1 n2
   have Hfin : Hid (sz = decide (zof s l - zof t k < 0) ∧ limbs m = limbs (zof s l - zof t k).natAbs) := hid ⟨by rw [hsz, hz, Int.sub_eq_add_neg], by rw [hm, hz, Int.sub_eq_add_neg]⟩
   have a0 := (show w1.drew.cell? ⟨w.heap.size, 0, none⟩ = _ from a0)
   have a1 := (show w1.drew.cell? ⟨w.heap.size, 1, none⟩ = _ from a1)
   have b0 := (show w1.drew.cell? ⟨w.heap.size + 1, 0, none⟩ = _ from b0)
   have b1 := (show w1.drew.cell? ⟨w.heap.size + 1, 1, none⟩ = _ from b1)
   have hBd : Below w.heap.size w w1.drew := hB1.drew
   have ubd := ub.below hBd
   have nzd := nza.below hBd
   have bRd := bR1.below (W' := w1.drew) ((Below.refl _ w1).drew)
   have Hc1 := hid hc1.size
   have hS : ∀ w2, Below w1.drew.heap.size w1.drew w2 → Calls Tryz.prog 124 #[.agg #[.bool s, .slice A l.length ca], .agg #[.bool sy, .slice B k.length cb]] w2 (fun e w' => ∃ Av cv, e = .returned (.agg #[.bool sz, .slice Av (limbs m).length cv]) ∧ IsU w' (new w2.heap.size) (.slice Av (limbs m).length cv) (limbs m) ∧ Below w2.heap.size w2 w') := fun w2 h => by
    have hy : IsZ w2 Y (.agg #[.bool sy, .slice B k.length cb]) (-zof t k) := ⟨_, by rw [hsy], by rw [Hn2.out]; exact ubd.below h⟩
    refine (wsum_good (nzd.below h) hy (by omega) (by rw [Hn2.out]; omega)).mono ?_
    rintro e w3 ⟨_, rfl, ⟨_, rfl, Av, cv, rfl, hv'⟩, hc3⟩
    rw [hsz, hm, hz]
    exact ⟨Av, cv, rfl, ⟨Av, cv, rfl, hv'⟩, hc3⟩
   have HS := hid hS
   clear hS n1 n2 nzb bR1 hB1 ua ub nza hsy hz hsz hm
   go_wp2
   go_region_with (first
    | (go_at_call 22; refine (made_at ubd Hn1.out).mono ?_; rintro e w2 ⟨rfl, hc2⟩; have A0 := keepC hc2 a0; have A1 := keepC hc2 a1)
    | (go_at_call 124; refine (HS.out _ hc2).mono ?_; rintro e w3 ⟨Av, cv, rfl, hv, hc3⟩; obtain ⟨q0, q1, f0, f1, _⟩ := (bRd.below hc2).below hc3))
   all_goals
    have bR3 := (bRd.below hc2).below hc3
    have hP := bR3.put (from_ (from_ hBd hc2) hc3) (by omega) (.bool sz) (.slice Av (limbs m).length cv)
    have hu2 := hP.keep (by have := Hc1.out; have := hc2.size; simp at *; omega) hv
    obtain ⟨Hu, HP⟩ := hid2 hu2 hP
    clear hv hu2 hP bR3 a0 a1 b0 b1
    go_wp2
    refine bodyPost_ret (res_int2 rfl _ (w.heap.size + 2) rfl HP.out.c0 HP.out.c1) rfl ?_
    obtain ⟨h1, h2⟩ := Hfin.out
    exact ⟨_, rfl, ⟨_, by rw [h1], by show IsU _ _ _ (limbs (zof s l - zof t k).natAbs); rw [← h2]; exact Hu.out⟩, HP.out.bel⟩
 · have e1 : errO s l t k = 8 := by simp only [errO, hok, if_false]
   have e2 : opP (· - ·) s l t k = (false, []) := by simp only [opP, hok, if_false]
   rw [e1] at hck ⊢
   rw [e2]
   have Hck := hid hck
   clear hck e1 e2 hok
   obtain ⟨a0, a1, _, _, _⟩ := bA
   obtain ⟨b0, b1, _, _, _⟩ := bB
   go_enter Tryz.func109, Tryz.ntmps109
   go_wp2_with fail
   refine Hck.out.mono ?_
   rintro e w1 ⟨rfl, hc1⟩
   have bR1 := (bR.alloc (.cells #[.bool s, .slice A l.length ca, .bool t, .slice B k.length cb] 25)).below hc1
   have hP := bR1.put (from_ hb1 hc1) (by omega) (.bool false) (.slice none 0 0)
   have HP := hid hP
   obtain ⟨q0, q1, f0, f1, _⟩ := bR1
   clear hP bR hB0 hb1 Hck
   go_wp2
   refine bodyPost_ret (res_int2 rfl _ (w.heap.size + 2) rfl HP.out.c0 HP.out.c1) rfl ?_
   exact ⟨_, rfl, ⟨_, rfl, IsU.nil _ _⟩, HP.out.bel⟩
theorem wSign_all {l : List Nat} (ha : IsI w Z a s l) :
  Calls Tryz.prog 115 #[a] w fun e w' => e = .returned (.tuple #[.int .i64 (sgX s l), .int .i64 (errC s l)]) ∧ Below w.heap.size w w' := by
 obtain ⟨_, rfl, A, c, rfl, hu⟩ := ha
 have hb0 : Below w.heap.size w (w.alloc (.cells #[.bool s, .slice A l.length c] 25)) := (Below.refl _ w).alloc (Nat.le_refl _) _
 obtain ⟨q0, q1, _, _, _⟩ := Box.new w (.bool s) (.slice A l.length c) 25
 have hI : IsI w Z (.agg #[.bool s, .slice A l.length c]) s l := ⟨_, rfl, A, c, rfl, hu⟩
 have hck := wcheck_any (hI.below hb0)
 have hsm := hu.small
 clear hu
 cases hok : okI s l with
 | true =>
   have e1 : errC s l = 0 := by simp [errC, hok]
   have e2 : sgX s l = sgn (zof s l) := by simp [sgX, hok]
   rw [e1] at hck ⊢
   rw [e2]
   have hz := hI.num hok
   have Hck := hid hck
   clear hck e1 e2 hok
   go_enter Tryz.func115, Tryz.ntmps115
   go_wp2_with fail
   refine Hck.out.mono ?_
   rintro e w1 ⟨rfl, hb1⟩
   have q0 := keepC hb1 q0
   have q1 := keepC hb1 q1
   have hB := from_ hb0 hb1
   go_wp2_with fail
   refine (wsign_good (hz.below hB)).mono ?_
   rintro e w2 ⟨rfl, hb2⟩
   have hB2 := from_ hB hb2
   go_wp2
   go_ret2
   exact ⟨rfl, hB2⟩
 | false =>
   have e1 : errC s l = 8 := by simp [errC, hok]
   have e2 : sgX s l = 0 := by simp [sgX, hok]
   rw [e1] at hck ⊢
   rw [e2]
   have Hck := hid hck
   clear hck e1 e2 hok
   go_enter Tryz.func115, Tryz.ntmps115
   go_wp2_with fail
   refine Hck.out.mono ?_
   rintro e w1 ⟨rfl, hb1⟩
   have hB := from_ hb0 hb1
   go_wp2
   go_ret2
   exact ⟨rfl, hB⟩
def cmpO (s : Bool) (l : List Nat) (t : Bool) (k : List Nat) : Int := if okI s l = true ∧ okI t k = true then sgn (zof s l - zof t k) else 0
theorem wcmp_all {l k : List Nat} (ha : IsI w Z a s l) (hb : IsI w Y b t k) (hl : l.length ≤ 90000000000) (hl2 : k.length ≤ 90000000000) :
  Calls Tryz.prog 87 #[a, b] w fun e w' => e = .returned (.tuple #[.int .i64 (cmpO s l t k), .int .i64 (errO s l t k)]) ∧ Below w.heap.size w w' := by
 have hsub := fun (w1 : World) (h : Below w.heap.size w w1) => wsub_all (ha.below h) (hb.below h) hl hl2
 obtain ⟨_, rfl, A, ca, rfl, hu⟩ := ha
 obtain ⟨_, rfl, B, cb, rfl, hv⟩ := hb
 have hB0 : Below w.heap.size w ((w.alloc (.cells #[.bool s, .slice A l.length ca] 25)).alloc (.cells #[.bool t, .slice B k.length cb] 25)) := ((Below.refl _ w).alloc (Nat.le_refl _) _).alloc (by simp) _
 have a0 := ((Box.new w (.bool s) (.slice A l.length ca) 25).alloc (.cells #[.bool t, .slice B k.length cb] 25)).c0
 have a1 := ((Box.new w (.bool s) (.slice A l.length ca) 25).alloc (.cells #[.bool t, .slice B k.length cb] 25)).c1
 have b0 := (Box.new (w.alloc (.cells #[.bool s, .slice A l.length ca] 25)) (.bool t) (.slice B k.length cb) 25).c0
 have b1 := (Box.new (w.alloc (.cells #[.bool s, .slice A l.length ca] 25)) (.bool t) (.slice B k.length cb) 25).c1
 rw [show (w.alloc (.cells #[.bool s, .slice A l.length ca] 25)).heap.size = w.heap.size + 1 by simp] at b0 b1
 have hs := hsub _ hB0
 clear hsub hu hv
 by_cases hok : okI s l = true ∧ okI t k = true
 · have e1 : errO s l t k = 0 := by simp [errO, hok]
   have e2 : opP (· - ·) s l t k = (decide (zof s l - zof t k < 0), limbs (zof s l - zof t k).natAbs) := by simp [opP, hok]
   have e3 : cmpO s l t k = sgn (zof s l - zof t k) := by simp [cmpO, hok]
   rw [e1, e2] at hs
   rw [e1, e3]
   generalize zof s l - zof t k = z at *
   obtain ⟨sz, hsz⟩ : ∃ sz, sz = decide (z < 0) := ⟨_, rfl⟩
   obtain ⟨L, hL⟩ : ∃ L, L = limbs z.natAbs := ⟨_, rfl⟩
   rw [← hsz, ← hL] at hs
   obtain ⟨Hs, Hz⟩ := hid2 hs (And.intro hsz hL)
   clear hs hsz hL e1 e2 e3 hok
   go_enter Tryz.func87, Tryz.ntmps87
   go_wp2_with fail
   refine Hs.out.mono ?_
   rintro e w1 ⟨_, rfl, ⟨_, rfl, Av, cv, rfl, hv⟩, hb1⟩
   have hB1 := from_ hB0 hb1
   have hI : IsI w1 _ (.agg #[.bool sz, .slice Av L.length cv]) sz L := ⟨_, rfl, Av, cv, rfl, hv⟩
   have hB2 : Below w.heap.size w (w1.alloc (.cells #[.bool sz, .slice Av L.length cv] 25)) := hB1.alloc hB1.size _
   have hI2 := hI.below ((Below.refl _ w1).alloc (Nat.le_refl _) (.cells #[.bool sz, .slice Av L.length cv] 25))
   have hZ : IsZ (w1.alloc (.cells #[.bool sz, .slice Av L.length cv] 25)) old (.agg #[.bool sz, .slice Av L.length cv]) z := by
    unfold IsZ
    rw [← Hz.out.1, ← Hz.out.2]
    exact hI2.mono (le_old _)
   obtain ⟨r0, r1, _, _, _⟩ := Box.new w1 (.bool sz) (.slice Av L.length cv) 25
   have hsg := wsign_good hZ
   have Hsg := hid hsg
   clear hsg hZ hI2 hI hv a0 a1 b0 b1
   go_wp2_with fail
   refine Hsg.out.mono ?_
   rintro e w2 ⟨rfl, hb2⟩
   have hB3 := from_ hB2 hb2
   go_wp2
   go_ret2
   exact ⟨rfl, hB3⟩
 · have e1 : errO s l t k = 8 := by simp only [errO, hok, if_false]
   have e2 : opP (· - ·) s l t k = (false, []) := by simp only [opP, hok, if_false]
   have e3 : cmpO s l t k = 0 := by simp only [cmpO, hok, if_false]
   rw [e1, e2] at hs
   rw [e1, e3]
   have Hs := hid hs
   clear hs e1 e2 e3 hok
   go_enter Tryz.func87, Tryz.ntmps87
   go_wp2_with fail
   refine Hs.out.mono ?_
   rintro e w1 ⟨_, rfl, ⟨_, rfl, Av, cv, rfl, hv⟩, hb1⟩
   have hB1 := from_ hB0 hb1
   have hB2 : Below w.heap.size w (w1.alloc (.cells #[.bool false, .slice Av 0 cv] 25)) := hB1.alloc hB1.size _
   clear hv a0 a1 b0 b1
   go_wp2
   go_ret2
   exact ⟨rfl, hB2⟩
def negP (s : Bool) (l : List Nat) : Bool × List Nat := if okI s l = true then (decide (-zof s l < 0), l) else (false, [])
theorem wneg_all {l : List Nat} (ha : IsI w Z a s l) (hl : l.length ≤ 90000000000) :
  Calls Tryz.prog 111 #[a] w fun e w' => ∃ v, e = .returned (.tuple #[v, .int .i64 (errC s l)]) ∧ IsI w' (new w.heap.size) v (negP s l).1 (negP s l).2 ∧ Below w.heap.size w w' := by
 obtain ⟨_, rfl, A, c, rfl, hu⟩ := ha
 obtain ⟨bA, bR, hB0⟩ : Box ((w.alloc (.cells #[.bool s, .slice A l.length c] 25)).alloc (.cells #[.bool false, .slice none 0 0] 25)) w.heap.size (.bool s) (.slice A l.length c) ∧ Box ((w.alloc (.cells #[.bool s, .slice A l.length c] 25)).alloc (.cells #[.bool false, .slice none 0 0] 25)) (w.heap.size + 1) (.bool false) (.slice none 0 0) ∧ Below w.heap.size w ((w.alloc (.cells #[.bool s, .slice A l.length c] 25)).alloc (.cells #[.bool false, .slice none 0 0] 25)) := by
  have h2 := Box.new (w.alloc (.cells #[.bool s, .slice A l.length c] 25)) (.bool false) (.slice none 0 0) 25
  rw [show (w.alloc (.cells #[.bool s, .slice A l.length c] 25)).heap.size = w.heap.size + 1 by simp] at h2
  exact ⟨(Box.new w _ _ _).alloc _, h2, ((Below.refl _ w).alloc (Nat.le_refl _) _).alloc (by simp) _⟩
 have hI : IsI w Z (.agg #[.bool s, .slice A l.length c]) s l := ⟨_, rfl, A, c, rfl, hu⟩
 have hck := wcheck_any (hI.below hB0)
 have hsm := hu.small
 obtain ⟨a0, a1, _, _, _⟩ := bA
 cases hok : okI s l with
 | true =>
   have e1 : errC s l = 0 := by simp [errC, hok]
   have e2 : negP s l = (decide (-zof s l < 0), l) := by simp [negP, hok]
   rw [e1] at hck ⊢
   rw [e2]
   obtain ⟨n1, _⟩ := neg_enc hok hsm
   obtain ⟨sy, hsy⟩ : ∃ sy, sy = decide (-zof s l < 0) := ⟨_, rfl⟩
   rw [← hsy] at n1 ⊢
   obtain ⟨Hn1, Hck⟩ := hid2 n1 hck
   clear hck e1 e2 hok n1 hsy
   go_enter Tryz.func111, Tryz.ntmps111
   go_wp2_with fail
   refine Hck.out.mono ?_
   rintro e w1 ⟨rfl, hb1⟩
   have a0 := keepC hb1 a0
   have a1 := keepC hb1 a1
   have a0 := (show w1.drew.cell? ⟨w.heap.size, 0, none⟩ = _ from a0)
   have a1 := (show w1.drew.cell? ⟨w.heap.size, 1, none⟩ = _ from a1)
   have hB1 : Below w.heap.size w w1.drew := (from_ hB0 hb1).drew
   have bRd := (bR.below hb1).below (W' := w1.drew) ((Below.refl _ w1).drew)
   have hcl := clone_any (n := l.length) (w := w1.drew) rfl (hu.below hB1) (by omega)
   have hS : Calls Tryz.prog 21 #[.slice A l.length c] w1.drew (fun e w' => ∃ Av cv, e = .returned (.slice Av l.length cv) ∧ IsU w' (new w1.drew.heap.size) (.slice Av l.length cv) l ∧ Below w1.drew.heap.size w1.drew w') := by
    refine hcl.mono ?_
    rintro e w2 ⟨v, rfl, hown, hb2⟩
    obtain ⟨Av, cv, rfl⟩ := own_shape hown
    exact ⟨Av, cv, rfl, ⟨Av, cv, rfl, isU_after hsm rfl hown (Nat.le_refl _)⟩, hb2⟩
   have HS := hid hS
   have hz2 : w.heap.size + 1 < w1.drew.heap.size := bRd.lt
   clear hS hcl bR hB0 Hck hu hI
   go_wp2
   go_region_with (first
    | (go_at_call 21; refine HS.out.mono ?_; rintro e w2 ⟨Av, cv, rfl, hv, hc2⟩; have A0 := keepC hc2 a0; have A1 := keepC hc2 a1)
    | (go_at_call 22; refine (made_at hv Hn1.out).mono ?_; rintro e w3 ⟨rfl, hc3⟩; obtain ⟨q0, q1, f0, f1, _⟩ := (bRd.below hc2).below hc3))
   all_goals
    have bR3 := (bRd.below hc2).below hc3
    have hP := bR3.put (from_ (from_ hB1 hc2) hc3) (by omega) (.bool sy) (.slice Av l.length cv)
    have hu2 := hP.keep hz2 (hv.below hc3)
    obtain ⟨Hu, HP⟩ := hid2 hu2 hP
    clear hv hu2 hP bR3 a0 a1
    go_wp2
    refine bodyPost_ret (res_int2 rfl _ (w.heap.size + 1) rfl HP.out.c0 HP.out.c1) rfl ?_
    exact ⟨_, rfl, ⟨_, rfl, Hu.out⟩, HP.out.bel⟩
 | false =>
   have e1 : errC s l = 8 := by simp [errC, hok]
   have e2 : negP s l = (false, []) := by simp [negP, hok]
   rw [e1] at hck ⊢
   rw [e2]
   have Hck := hid hck
   clear hck e1 e2 hok
   go_enter Tryz.func111, Tryz.ntmps111
   go_wp2_with fail
   refine Hck.out.mono ?_
   rintro e w1 ⟨rfl, hb1⟩
   have bR1 := bR.below hb1
   have hP := bR1.put (from_ hB0 hb1) (by omega) (.bool false) (.slice none 0 0)
   have HP := hid hP
   obtain ⟨q0, q1, f0, f1, _⟩ := bR1
   clear hP bR hB0 Hck
   go_wp2
   refine bodyPost_ret (res_int2 rfl _ (w.heap.size + 1) rfl HP.out.c0 HP.out.c1) rfl ?_
   exact ⟨_, rfl, ⟨_, rfl, IsU.nil _ _⟩, HP.out.bel⟩
end Go.Proofs.YtcheajjjdbllfaaGreat
