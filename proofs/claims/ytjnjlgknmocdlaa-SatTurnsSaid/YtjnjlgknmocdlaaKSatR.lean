/-
  Signs of a row's products with a list's: what is said, and sat.Signs, at any words. No conditions but bounds on lengths.
  Masks of rows: what is said, and sat.Masks, at any words. No conditions but bounds on lengths.
  Lists of rows of numbers; literals in memory; the examples that each statement of facetroomlaw19 begins with. No conditions.
  Masks turned: sat.Turn. No conditions.
-/
import Derived.Test.YtjnjlgknmocdlaaKVecP
import Derived.Test.YtjnjlgknmocdlaaKSatF
import Derived.Test.YtjnjlgknmocdlaaKWhJ
import Derived.Test.YtjnjlgknmocdlaaKWhK
namespace Go.Proofs.Ytjnjlgknmocdlaa
open Go.RowKit
set_option linter.unusedVariables false
set_option linter.unusedSimpArgs false

def zsV (ps : List (Bool × List Nat)) : List Int := ps.map fun p => zof p.1 p.2
/-- The sign of the product of two rows. -/
def sgnD (ps qs : List (Bool × List Nat)) : Int := sgn (dotZ (zsV ps) (zsV qs))
def errG (ps : List (Bool × List Nat)) (pss : Vecs) : Int :=
  if errR pss = 0 then (if okV ps = true then (if 0 < pss.length ∧ (pss.headD []).length ≠ ps.length then 70 else 0) else 8) else errR pss
def signTo (ps : List (Bool × List Nat)) (pss : Vecs) (k : Nat) : List Int := (pss.take k).map (sgnD ps)
def signsL (ps : List (Bool × List Nat)) (pss : Vecs) : List Int := if errG ps pss = 0 then pss.map (sgnD ps) else []
theorem signTo_succ {ps : List (Bool × List Nat)} {pss : Vecs} {k : Nat} (hk : k < pss.length) : signTo ps pss (k + 1) = signTo ps pss k ++ [sgnD ps pss[k]] := by
  unfold signTo
  rw [List.take_succ_eq_append_getElem hk, List.map_append]
  rfl
theorem signTo_len {ps : List (Bool × List Nat)} {pss : Vecs} {k : Nat} (hk : k ≤ pss.length) : (signTo ps pss k).length = k := by
  unfold signTo
  rw [List.length_map, List.length_take]
  omega
theorem sgn_bounds (x : Int) : -1 ≤ sgn x ∧ sgn x ≤ 1 := by
  unfold sgn
  split
  · omega
  · split <;> omega
theorem signTo_small {ps : List (Bool × List Nat)} {pss : Vecs} {k : Nat} : ∀ x ∈ signTo ps pss k, -9223372036854775808 ≤ x ∧ x ≤ 9223372036854775807 := fun x hx => by
  unfold signTo at hx
  obtain ⟨q, _, rfl⟩ := List.mem_map.1 hx
  have := sgn_bounds (dotZ (zsV ps) (zsV q))
  unfold sgnD
  omega
theorem isInts_below {w w' : World} {Z : Zone} {u : Value} {l : List Int} (h : IsInts w Z u l) (hb : Below w.heap.size w w') : IsInts w' Z u l := by
  obtain ⟨A, c, e, h1, h2, h3, h4⟩ := h
  refine ⟨A, c, e, h1, h2, h3, fun h0 => ?_⟩
  obtain ⟨b, o, e2, h5, h6⟩ := h4 h0
  exact ⟨b, o, e2, Nat.lt_of_lt_of_le h5 hb.size, fun j hj => keepC hb (h6 j hj)⟩
theorem isInts_nil (w : World) : IsInts w old (.slice none 0 0) [] := ⟨none, 0, rfl, by simp, by omega, fun x hx => by simp at hx, fun h => absurd h (by simp)⟩

theorem errG_check {ps : List (Bool × List Nat)} {pss : Vecs} (h : errR pss ≠ 0) : errG ps pss = errR pss := by unfold errG; rw [if_neg h]
theorem errG_bad {ps : List (Bool × List Nat)} {pss : Vecs} (h : errR pss = 0) (h2 : okV ps = false) : errG ps pss = 8 := by unfold errG; rw [if_pos h, h2, if_neg (by simp)]
theorem errG_dim {ps : List (Bool × List Nat)} {pss : Vecs} (h : errR pss = 0) (h2 : okV ps = true) (h3 : 0 < pss.length) (h4 : pss[0].length ≠ ps.length) : errG ps pss = 70 := by
  unfold errG
  rw [if_pos h, if_pos h2, headD_zero h3, if_pos ⟨h3, h4⟩]
theorem errG_good {ps : List (Bool × List Nat)} {pss : Vecs} (h : errR pss = 0) (h2 : okV ps = true) (h4 : ∀ h3 : 0 < pss.length, pss[0].length = ps.length) : errG ps pss = 0 := by
  unfold errG
  rw [if_pos h, if_pos h2, if_neg]
  rintro ⟨h3, h5⟩
  rw [headD_zero h3] at h5
  exact h5 (h4 h3)
theorem signsL_no {ps : List (Bool × List Nat)} {pss : Vecs} (h : errG ps pss ≠ 0) : signsL ps pss = [] := by unfold signsL; rw [if_neg h]
theorem signsL_yes {ps : List (Bool × List Nat)} {pss : Vecs} (h : errG ps pss = 0) : signsL ps pss = signTo ps pss pss.length := by unfold signsL signTo; rw [if_pos h, List.take_length]
/-- Where there is no error, rows are of one length, and may be. -/
theorem errG_zero {ps : List (Bool × List Nat)} {pss : Vecs} (h : errG ps pss = 0) : errR pss = 0 ∧ okV ps = true ∧ ∀ qs ∈ pss, okV qs = true ∧ qs.length = ps.length := by
  unfold errG at h
  split at h
  · rename_i h1
    split at h
    · rename_i h2
      split at h
      · cases h
      · rename_i h3
        refine ⟨h1, h2, fun qs hq => ?_⟩
        obtain ⟨_, h4⟩ := errR_zero h1
        obtain ⟨a, _, b⟩ := h4 qs hq
        have h5 : 0 < pss.length := List.length_pos_of_mem hq
        have h6 : (pss.headD []).length = ps.length := Classical.byContradiction fun h7 => h3 ⟨h5, h7⟩
        exact ⟨a, by rw [b, h6]⟩
    · cases h
  · rename_i h1
    exact absurd h h1

set_option maxRecDepth 100000 in
set_option maxHeartbeats 4000000 in
theorem satsigns_any {w : World} {Z Y : Zone} {A B : Option Addr} {c d K : Nat} {ps : List (Bool × List Nat)} {pss : Vecs} (ha : VecAt w Z A c ps) (hm : MatAt w Y B d pss)
    (hK1 : ∀ p ∈ ps, p.2.length ≤ K) (hK2 : pss.length ≤ 1024 → ∀ qs ∈ pss, ∀ p ∈ qs, p.2.length ≤ K) (hK : K ≤ 4000) :
    Calls Try.prog 27 #[.slice A ps.length c, .slice B pss.length d] w fun e w' => ∃ u, e = .returned (.tuple #[u, .int .i64 (errG ps pss)]) ∧ IsInts w' old u (signsL ps pss) ∧ Below w.heap.size w w' := by
  have hlen := hm.len
  have hlen2 := ha.len
  have hck := rowscheck_any hm
  obtain ⟨i0, hi, hz0, hz1, hz2⟩ := info_parts infoInt
  by_cases h0 : errR pss = 0
  · have hb := errR_zero h0
    rw [h0] at hck
    have Hck := Lib.hid hck
    have hcv := fun (w1 : World) (h : Below w.heap.size w w1) => vcheck_any (ha.below h)
    by_cases h1 : okV ps = true
    · have e1 : errV ps = 0 := by unfold errV; rw [if_pos h1]
      rw [e1] at hcv
      have Hcv := Lib.hid hcv
      clear hck hcv e1
      by_cases h2 : ∀ h3 : 0 < pss.length, pss[0].length = ps.length
      · have hE := errG_good h0 h1 h2
        have hz := errG_zero hE
        have hsl := signsL_yes hE
        rw [hE, hsl]
        have Hm : Hid (∀ w1, Below w.heap.size w w1 → MatAt w1 Y B d pss) := fun w1 h => hm.below h
        have Ha : Hid (∀ w1, Below w.heap.size w w1 → VecAt w1 Z A c ps) := fun w1 h => ha.below h
        have hl64 := okV_len h1
        have Hz := Lib.hid hz
        have hp1024 := hb.1
        have hKK := hK2 hb.1
        have Hdot : Hid (∀ (w1 : World) (q : List (Bool × List Nat)) (B2 : Option Addr) (d2 : Nat), Below w.heap.size w w1 → VecAt w1 Y B2 d2 q → q ∈ pss → ∃ (s : Bool) (m : List Nat), Nm (dotZ (zsV ps) (zsV q)) s m ∧
            Calls Try.prog 33 #[.slice A ps.length c, .slice B2 q.length d2] w1 fun e w' => ∃ Av cv, e = .returned (.tuple #[.agg #[.bool s, .slice Av m.length cv], .int .i64 0]) ∧ U64s w' (new w1.heap.size) Av cv m ∧ Below w1.heap.size w1 w') := fun w1 q B2 d2 hw hq hmem => by
          obtain ⟨k1, k2⟩ := hz.2.2 q hmem
          exact ⟨_, _, Nm.mk' _, vdot_n (Ha.out w1 hw) hq (NmV.ok h1 ha.small) (NmV.ok k1 hq.small) k2.symm hl64 hK1 (hKK q hmem) (by omega) (Nm.mk' _)⟩
        clear hE hsl hK1 hK2 hKK hb hz h0 h1
        have hp0 : pss.length = 0 ∨ 0 < pss.length := by omega
        have Htest : Hid (pss.length = 0 ∨ ∃ (b o : Nat) (B2 : Option Addr) (d2 : Nat), 0 < pss.length ∧ B = some ⟨b, o, none⟩ ∧ ∀ w1, Below w.heap.size w w1 → w1.cell? ⟨b, o, none⟩ = some (.slice B2 ps.length d2)) := by
          rcases hp0 with h | h
          · exact .inl h
          · obtain ⟨b, o, B2, d2, e, hb, c0, hv⟩ := hm.at h
            refine .inr ⟨b, o, B2, d2, h, e, fun w1 hw => ?_⟩
            rw [Nat.add_zero, h2 h] at c0
            exact keepC hw c0
        clear h2 hp0 ha hm
        go_enter Try.func27, Try.ntmps27
        go_wp2_with fail
        refine Hck.out.mono ?_
        rintro e w1 ⟨rfl, hb1⟩
        go_wp2_with fail
        refine (Hcv.out _ hb1).mono ?_
        rintro e w2 ⟨rfl, hb2⟩
        have hB2 := from_ hb1 hb2
        have hns : ((ps.length : Int) != (ps.length : Int)) = false := bne_self_eq_false _
        rcases Htest.out with h3 | ⟨b, o, B2, d2, h3, rfl, hc⟩
        · have e0 : pss = [] := List.length_eq_zero_iff.1 h3
          subst e0
          clear Htest h3 Hck Hcv hb1 hb2
          go_wp2
          go_loopw [4, 35] (fun s4 s35 wr => s4 = .slice none 0 0 ∧ s35 = .int .i64 0 ∧ Below w.heap.size w wr) (fun _ _ _ => 0)
          case atStart => exact ⟨rfl, rfl, hB2⟩
          case round =>
            clear hB2
            obtain ⟨rfl, rfl, hbel⟩ := hrel
            go_wp2
            go_ret2
            exact ⟨_, rfl, isInts_nil _, hbel⟩
        · have c0 := hc _ hB2
          clear Htest Hck Hcv hb1 hb2 hc
          go_wp2
          go_loopw [4, 35] (fun s4 s35 wr => ∃ k : Nat, k ≤ pss.length ∧ s35 = .int .i64 (k : Int) ∧ wr.ownsRow w.heap.size 3 1 s4 k ((signTo ps pss k).map fun x : Int => Value.int .i64 x) ∧ Below w.heap.size w wr) (fun _ s35 _ => pss.length - (intOf s35).toNat)
          case atStart => exact ⟨0, Nat.zero_le _, rfl, World.ownsRow_nil _ _ _ _, hB2⟩
          case round =>
            clear hB2 c0
            obtain ⟨k, hk, rfl, hown, hbel⟩ := hrel
            by_cases hlt : k < pss.length
            · obtain ⟨_, _, B3, d3, e, hb, c0, hv⟩ := (Hm.out _ hbel).at hlt
              cases e
              obtain ⟨s, m, nz, hdot⟩ := Hdot.out _ _ _ _ hbel hv (List.getElem_mem hlt)
              have hst : signTo ps pss (k + 1) = signTo ps pss k ++ [sgn (dotZ (zsV ps) (zsV pss[k]))] := signTo_succ hlt
              have hsb := sgn_bounds (dotZ (zsV ps) (zsV pss[k]))
              generalize dotZ (zsV ps) (zsV pss[k]) = z at *
              obtain ⟨g, hg⟩ : ∃ g, sgn z = g := ⟨_, rfl⟩
              rw [hg] at hst hsb
              have Hst := Lib.hid hst
              have Hdt := Lib.hid hdot
              have Nz := Lib.hid nz
              have Hg := Lib.hid hg
              have hq1 := hv.len
              have hk1 : k ≤ 1024 := by omega
              clear hst hdot nz hg hv
              generalize pss[k] = q at *
              generalize q.length = ql at *
              go_wp2_with fail
              refine Hdt.out.mono ?_
              rintro e w3 ⟨Av, cv, rfl, hu, hb3⟩
              have hal : Below w3.heap.size w3 (w3.alloc (.cells #[.bool s, .slice Av m.length cv] 25)) := (Below.refl _ _).alloc (Nat.le_refl _) _
              obtain ⟨x0, x1, _, _, _⟩ := Box.new w3 (.bool s) (.slice Av m.length cv) 25
              have hs := sign_n Nz.out Hg.out (hu.below hal)
              have Hs := Lib.hid hs
              have hB3 := from_ (from_ hbel hb3) hal
              have hown3 := own_below (own_below hown hb3) hal
              clear hs hown hb3 hal hbel hu c0
              go_wp2_with fail
              refine Hs.out.mono ?_
              rintro e w4 ⟨rfl, hb4⟩
              have hown4 := own_below hown3 hb4
              have hB4 := from_ hB3 hb4
              clear hown3 hB3 hb4 Hs
              go_wp2_with (at_builtin; go_loud (refine wpList_app1 _ rfl _ _ 44 rfl w.heap.size 3 i0 (.int .i64 0) Try.underlying44 hi hz0 hz1 hz2 rfl _ _ _ rfl (hown4.alloc _) w4.heap.size (.int .i64 g) rfl (cell_newest rfl rfl) rfl (by omega) (by have := hB4.size; simp; omega) ?_); intro v' w5 hown' hgrow; go_loud (have hb5 : Below w.heap.size w w5 := (hB4.alloc hB4.size _).grown hgrow (by have := hB4.size; simp; omega) (own_nil_of hown4)))
              go_roundw
              case rel =>
                refine ⟨k + 1, by omega, by go_num, ?_, hb5⟩
                rw [Hst.out]
                simpa using hown'
              case measure => simp [intOf]; omega
            · obtain rfl : k = pss.length := by omega
              have hfin := ints_own hown signTo_small
              have HF := Lib.hid hfin
              clear hfin hown
              go_wp2
              go_ret2
              exact ⟨_, rfl, HF.out, hbel⟩
      · obtain ⟨h3, h4⟩ : ∃ h3 : 0 < pss.length, pss[0].length ≠ ps.length := Classical.byContradiction fun hn => h2 fun h3 => Classical.byContradiction fun h5 => hn ⟨h3, h5⟩
        have hE := errG_dim h0 h1 h3 h4
        rw [hE, signsL_no (by rw [hE]; decide)]
        obtain ⟨b, o, B2, d2, rfl, hb, c0, hv⟩ := hm.at h3
        have hvl := hv.len
        rw [Nat.add_zero] at c0
        have hns : ((pss[0].length : Int) != (ps.length : Int)) = true := by simp; omega
        clear hE h0 h1 h2 h4 hv ha hm
        generalize pss[0].length = q at *
        generalize ps.length = L at *
        generalize pss.length = M at *
        go_enter Try.func27, Try.ntmps27
        go_wp2_with fail
        refine Hck.out.mono ?_
        rintro e w1 ⟨rfl, hb1⟩
        go_wp2_with fail
        refine (Hcv.out _ hb1).mono ?_
        rintro e w2 ⟨rfl, hb2⟩
        have hB2 := from_ hb1 hb2
        replace c0 := keepC hB2 c0
        go_wp2
        go_ret2
        exact ⟨_, rfl, isInts_nil _, hB2⟩
    · have h1' : okV ps = false := by cases h : okV ps <;> simp_all
      have hE := errG_bad h0 h1'
      rw [hE, signsL_no (by rw [hE]; decide)]
      have e1 : errV ps = 8 := by unfold errV; rw [if_neg h1]
      rw [e1] at hcv
      have Hcv := Lib.hid hcv
      clear hck hcv e1 hE h0 h1 h1' ha hm
      generalize ps.length = L at *
      generalize pss.length = M at *
      go_enter Try.func27, Try.ntmps27
      go_wp2_with fail
      refine Hck.out.mono ?_
      rintro e w1 ⟨rfl, hb1⟩
      go_wp2_with fail
      refine (Hcv.out _ hb1).mono ?_
      rintro e w2 ⟨rfl, hb2⟩
      have hB2 := from_ hb1 hb2
      go_wp2
      go_ret2
      exact ⟨_, rfl, isInts_nil _, hB2⟩
  · have hE := errG_check (ps := ps) h0
    rw [signsL_no (by rw [hE]; exact h0), hE]
    have t0 : (errR pss != 0) = true := by simp [h0]
    have Hck := Lib.hid hck
    clear hck hE h0 ha hm
    generalize ps.length = L at *
    generalize pss.length = M at *
    generalize errR pss = E at *
    go_enter Try.func27, Try.ntmps27
    go_wp2_with fail
    refine Hck.out.mono ?_
    rintro e w1 ⟨rfl, hb1⟩
    go_wp2
    go_ret2
    exact ⟨_, rfl, isInts_nil _, hb1⟩

end Go.Proofs.Ytjnjlgknmocdlaa

namespace Go.Proofs.Ytjnjlgknmocdlaa
open Go.RowKit
set_option linter.unusedVariables false
set_option linter.unusedSimpArgs false

/-- The bits where z says yes. -/
def maskN (z : Nat → Bool) : Nat → Nat
  | 0 => 0
  | k + 1 => maskN z k + if z k = true then 2 ^ k else 0
theorem maskN_lt (z : Nat → Bool) (k : Nat) : maskN z k < 2 ^ k := by
  induction k with
  | zero => simp [maskN]
  | succ k ih =>
    rw [maskN, Nat.pow_succ]
    split <;> omega
theorem maskN_yes {z : Nat → Bool} {k : Nat} (h : z k = true) : maskN z (k + 1) = maskN z k + 2 ^ k := by rw [maskN, if_pos h]
theorem maskN_no {z : Nat → Bool} {k : Nat} (h : z k = false) : maskN z (k + 1) = maskN z k := by rw [maskN, h, if_neg (by simp), Nat.add_zero]
theorem pow_lt64 {k : Nat} (h : k < 64) : 2 ^ k < 18446744073709551616 := by
  rw [show (18446744073709551616 : Nat) = 2 ^ 64 by decide]
  exact Nat.pow_lt_pow_right (by omega) h
theorem pow_le64 {k : Nat} (h : k ≤ 64) : 2 ^ k ≤ 18446744073709551616 := by
  rw [show (18446744073709551616 : Nat) = 2 ^ 64 by decide]
  exact Nat.pow_le_pow_right (by omega) h
theorem wrap_pow {j : Nat} (h : j < 64) : IntKind.u64.wrap ((2 : Int) ^ j) = ((2 ^ j : Nat) : Int) := by
  have h1 := pow_lt64 h
  have e : (2 : Int) ^ j = ((2 ^ j : Nat) : Int) := by rw [Int.natCast_pow]; rfl
  rw [e]
  generalize 2 ^ j = p at *
  rw [IntKind.wrap_u64]
  omega
def zeroD (pss : Vecs) (ps : List (Bool × List Nat)) (i : Nat) : Bool := decide (sgnD ps (pss.getD i []) = 0)
def maskD (pss : Vecs) (ps : List (Bool × List Nat)) : Nat := maskN (zeroD pss ps) pss.length
def errMk (pss qss : Vecs) : Int :=
  if errR pss = 0 then (if errR qss = 0 then (if pss.length ≤ 64 then (if 0 < pss.length ∧ 0 < qss.length ∧ (pss.headD []).length ≠ (qss.headD []).length then 70 else 0) else 4) else errR qss) else errR pss
def maskTo (pss qss : Vecs) (k : Nat) : List Nat := (qss.take k).map (maskD pss)
def masksL (pss qss : Vecs) : List Nat := if errMk pss qss = 0 then qss.map (maskD pss) else []
theorem maskTo_succ {pss qss : Vecs} {k : Nat} (hk : k < qss.length) : maskTo pss qss (k + 1) = maskTo pss qss k ++ [maskD pss qss[k]] := by
  unfold maskTo
  rw [List.take_succ_eq_append_getElem hk, List.map_append]
  rfl
theorem maskTo_len {pss qss : Vecs} {k : Nat} (hk : k ≤ qss.length) : (maskTo pss qss k).length = k := by
  unfold maskTo
  rw [List.length_map, List.length_take]
  omega
theorem maskD_lt {pss : Vecs} (ps : List (Bool × List Nat)) (h : pss.length ≤ 64) : maskD pss ps < 18446744073709551616 :=
  Nat.lt_of_lt_of_le (maskN_lt _ _) (pow_le64 h)
theorem maskTo_small {pss qss : Vecs} {k : Nat} (h : pss.length ≤ 64) : Small (maskTo pss qss k) := fun x hx => by
  unfold maskTo at hx
  obtain ⟨q, _, rfl⟩ := List.mem_map.1 hx
  exact maskD_lt q h
theorem errMk_one {pss qss : Vecs} (h : errR pss ≠ 0) : errMk pss qss = errR pss := by unfold errMk; rw [if_neg h]
theorem errMk_two {pss qss : Vecs} (h : errR pss = 0) (h2 : errR qss ≠ 0) : errMk pss qss = errR qss := by unfold errMk; rw [if_pos h, if_neg h2]
theorem errMk_many {pss qss : Vecs} (h : errR pss = 0) (h2 : errR qss = 0) (h3 : ¬ pss.length ≤ 64) : errMk pss qss = 4 := by unfold errMk; rw [if_pos h, if_pos h2, if_neg h3]
theorem errMk_dim {pss qss : Vecs} (h : errR pss = 0) (h2 : errR qss = 0) (h3 : pss.length ≤ 64) (p0 : 0 < pss.length) (q0 : 0 < qss.length) (h4 : pss[0].length ≠ qss[0].length) : errMk pss qss = 70 := by
  unfold errMk
  rw [if_pos h, if_pos h2, if_pos h3, if_pos]
  rw [headD_zero p0, headD_zero q0]
  exact ⟨p0, q0, h4⟩
theorem errMk_good {pss qss : Vecs} (h : errR pss = 0) (h2 : errR qss = 0) (h3 : pss.length ≤ 64) (h4 : ∀ (p0 : 0 < pss.length) (q0 : 0 < qss.length), pss[0].length = qss[0].length) : errMk pss qss = 0 := by
  unfold errMk
  rw [if_pos h, if_pos h2, if_pos h3, if_neg]
  rintro ⟨p0, q0, h5⟩
  rw [headD_zero p0, headD_zero q0] at h5
  exact h5 (h4 p0 q0)
theorem masksL_no {pss qss : Vecs} (h : errMk pss qss ≠ 0) : masksL pss qss = [] := by unfold masksL; rw [if_neg h]
theorem masksL_yes {pss qss : Vecs} (h : errMk pss qss = 0) : masksL pss qss = maskTo pss qss qss.length := by unfold masksL maskTo; rw [if_pos h, List.take_length]
theorem errMk_zero {pss qss : Vecs} (h : errMk pss qss = 0) : errR pss = 0 ∧ errR qss = 0 ∧ pss.length ≤ 64 ∧ ∀ qs ∈ qss, errG qs pss = 0 := by
  unfold errMk at h
  split at h
  · rename_i h1
    split at h
    · rename_i h2
      split at h
      · rename_i h3
        split at h
        · cases h
        · rename_i h4
          refine ⟨h1, h2, h3, fun qs hq => errG_good h1 ((errR_zero h2).2 qs hq).1 fun p0 => ?_⟩
          have q0 : 0 < qss.length := List.length_pos_of_mem hq
          have h5 := ((errR_zero h2).2 qs hq).2.2
          rw [h5, ← headD_zero p0]
          exact Classical.byContradiction fun h6 => h4 ⟨p0, q0, h6⟩
      · cases h
    · rename_i h2
      exact absurd h h2
  · rename_i h1
    exact absurd h h1

theorem isU_own {w : World} {base : Nat} {e : TypeId} {v : Value} {n : Nat} {l : List Nat} (h : w.ownsRow base e 1 v n (l.map fun x : Nat => Value.int .u64 (x : Int))) (hs : Small l) : IsU w old v l := by
  obtain ⟨A, c, rfl⟩ := own_shape h
  obtain ⟨rfl, hu⟩ := U64s.of_own hs h
  exact ⟨A, c, rfl, hu.mono (le_old _)⟩
theorem infoW : (Try.prog.info? 34).map (fun i => (i.zero, i.size, i.bytes)) = some (some (.int .u64 0), 1, 8) := by kernel_rfl

theorem index2_0 (w : World) (A B : Option Addr) (n c m d : Nat) : (Instr.index 117 (.agg #[.slice A n c, .slice B m d]) (.int .i64 0)).run Try.prog w = .ok (.slice A n c) w := by kernel_rfl
theorem index2_1 (w : World) (A B : Option Addr) (n c m d : Nat) : (Instr.index 117 (.agg #[.slice A n c, .slice B m d]) (.int .i64 1)).run Try.prog w = .ok (.slice B m d) w := by kernel_rfl

set_option maxRecDepth 100000 in
set_option maxHeartbeats 4000000 in
theorem satmasks_any {w : World} {Z Y : Zone} {A B : Option Addr} {c d K : Nat} {pss qss : Vecs} (ha : MatAt w Z A c pss) (hm : MatAt w Y B d qss)
    (hK1 : pss.length ≤ 1024 → ∀ qs ∈ pss, ∀ p ∈ qs, p.2.length ≤ K) (hK2 : qss.length ≤ 1024 → ∀ qs ∈ qss, ∀ p ∈ qs, p.2.length ≤ K) (hK : K ≤ 4000) :
    Calls Try.prog 29 #[.slice A pss.length c, .slice B qss.length d] w fun e w' => ∃ u, e = .returned (.tuple #[u, .int .i64 (errMk pss qss)]) ∧ IsU w' old u (masksL pss qss) ∧ Below w.heap.size w w' := by
  have hlen := ha.len
  have hlen2 := hm.len
  have hc1 := rowscheck_any ha
  have hc2 := fun (w1 : World) (h : Below w.heap.size w w1) => rowscheck_any (hm.below h)
  have x20 := fun (w1 : World) => index2_0 w1 A B pss.length c qss.length d
  have x21 := fun (w1 : World) => index2_1 w1 A B pss.length c qss.length d
  obtain ⟨i0, hi, hz0, hz1, hz2⟩ := info_parts infoW
  by_cases h1 : errR pss = 0
  · rw [h1] at hc1
    have Hc1 := Lib.hid hc1
    by_cases h2 : errR qss = 0
    · rw [h2] at hc2
      have Hc2 := Lib.hid hc2
      clear hc1 hc2
      have hst : Hid (∀ (R : Ending → World → Prop), True) := fun _ => trivial
      clear hst
      by_cases h3 : pss.length ≤ 64
      · have m3 : decide ((64 : Int) < (pss.length : Int)) = false := decide_eq_false (by omega)
        by_cases h4 : ∀ (p0 : 0 < pss.length) (q0 : 0 < qss.length), pss[0].length = qss[0].length
        · have hE := errMk_good h1 h2 h3 h4
          have hz := (errMk_zero hE).2.2.2
          rw [hE, masksL_yes hE]
          have hq1024 := (errR_zero h2).1
          have hKq := hK2 (errR_zero h2).1
          have Hm : Hid (∀ w1, Below w.heap.size w w1 → MatAt w1 Y B d qss) := fun w1 h => hm.below h
          have Hsg : Hid (∀ (w1 : World) (q : List (Bool × List Nat)) (B2 : Option Addr) (d2 : Nat), Below w.heap.size w w1 → VecAt w1 Y B2 d2 q → q ∈ qss →
              Calls Try.prog 27 #[.slice B2 q.length d2, .slice A pss.length c] w1 fun e w' => ∃ As cs, e = .returned (.tuple #[.slice As pss.length cs, .int .i64 0]) ∧ IsInts w' old (.slice As pss.length cs) (signTo q pss pss.length) ∧ Below w1.heap.size w1 w') := fun w1 q B2 d2 hw hq hmem => by
            have h5 := satsigns_any hq (ha.below hw) (hKq q hmem) hK1 hK
            rw [hz q hmem, signsL_yes (hz q hmem)] at h5
            refine h5.mono ?_
            rintro e w' ⟨u, rfl, hu, hb⟩
            obtain ⟨As, cs, rfl, hq⟩ := hu
            have hl := signTo_len (ps := q) (Nat.le_refl pss.length)
            exact ⟨As, cs, by rw [hl], ⟨As, cs, by rw [hl], hq⟩, hb⟩
          have Hsm : Hid (∀ k, Small (maskTo pss qss k)) := fun k => maskTo_small h3
          have Htest : Hid (∀ w1, Below w.heap.size w w1 → (pss.length = 0 ∨ (0 < pss.length ∧ qss.length = 0) ∨ ∃ (b o : Nat) (B2 : Option Addr) (d2 : Nat) (b' o' : Nat) (B3 : Option Addr) (d3 L : Nat), 0 < pss.length ∧ 0 < qss.length ∧ A = some ⟨b, o, none⟩ ∧ B = some ⟨b', o', none⟩ ∧ w1.cell? ⟨b, o, none⟩ = some (.slice B2 L d2) ∧ w1.cell? ⟨b', o', none⟩ = some (.slice B3 L d3))) := fun w1 hw => by
            rcases Nat.eq_zero_or_pos pss.length with h | h
            · exact .inl h
            · rcases Nat.eq_zero_or_pos qss.length with h' | h'
              · exact .inr (.inl ⟨h, h'⟩)
              · obtain ⟨b, o, B2, d2, e, hb, c0, hv⟩ := ha.at h
                obtain ⟨b', o', B3, d3, e', hb', c0', hv'⟩ := hm.at h'
                rw [Nat.add_zero] at c0 c0'
                rw [h4 h h'] at c0
                exact .inr (.inr ⟨b, o, B2, d2, b', o', B3, d3, _, h, h', e, e', keepC hw c0, keepC hw c0'⟩)
          have Hstep : Hid (∀ k, k < qss.length → maskTo pss qss (k + 1) = maskTo pss qss k ++ [maskD pss (qss.getD k [])]) := fun k hk => by rw [maskTo_succ hk]; simp [List.getD, hk]
          have Hsgn : Hid (∀ (q : List (Bool × List Nat)) (w1 : World) (As : Option Addr) (cs : Nat), IsInts w1 old (.slice As pss.length cs) (signTo q pss pss.length) → ∀ j, j < pss.length → ∃ b o, As = some ⟨b, o, none⟩ ∧ b < w1.heap.size ∧ ∃ g : Int, w1.cell? ⟨b, o + j, none⟩ = some (.int .i64 g) ∧ zeroD pss q j = decide (g = 0)) := fun q w1 As cs h j hj => by
            obtain ⟨As', cs', e, _, _, _, h5⟩ := h
            injection e with e1 e3 e4
            subst e1 e4
            have hl := signTo_len (ps := q) (Nat.le_refl pss.length)
            obtain ⟨b, o, e2, hb, hc⟩ := h5 (by omega)
            refine ⟨b, o, e2, hb, _, hc j (by omega), ?_⟩
            unfold zeroD signTo
            simp [List.getD, hj]
          clear hE hz hKq hK1 hK2 h1 h2 h4 ha hm
          generalize hn : pss.length = n at *
          generalize hm' : qss.length = m at *
          have Hn := Lib.hid hn
          have Hm' := Lib.hid hm'
          clear hn hm'
          go_enter Try.func29, Try.ntmps29
          go_wp2
          go_loopw [5, 18] (fun s5 s18 wr => ∃ z : Int, (z = 0 ∨ z = 1 ∨ z = 2) ∧ s18 = .int .i64 z ∧ s5 = .int .i64 0 ∧ Below w.heap.size w wr ∧ (z = 0 → w = wr)) (fun _ s18 _ => (2 - intOf s18).toNat)
          case atStart => exact ⟨0, .inl rfl, rfl, rfl, Below.refl _ _, fun _ => rfl⟩
          case round =>
            obtain ⟨k, hk, rfl, rfl, hbel, hw0⟩ := hrel
            rcases hk with rfl | rfl | rfl
            · obtain rfl := hw0 rfl
              go_wp2_with fail
              refine Hc1.out.mono ?_
              rintro e w1 ⟨rfl, hb1⟩
              go_wp2
              go_roundw
              case rel => exact ⟨1, .inr (.inl rfl), by first | rfl | trivial, by first | rfl | trivial, hb1, fun h => absurd h (by decide)⟩
              case measure => simp [intOf]
            · clear hw0
              go_wp2_with fail
              refine (Hc2.out _ hbel).mono ?_
              rintro e w1 ⟨rfl, hb1⟩
              have hb2 := from_ hbel hb1
              go_wp2
              go_roundw
              case rel => exact ⟨2, .inr (.inr rfl), by first | rfl | trivial, by first | rfl | trivial, hb2, fun h => absurd h (by decide)⟩
              case measure => simp [intOf]
            · clear hw0
              have hrest : Hid (∀ (wq : World), Below w.heap.size w wq → True) := fun _ _ => trivial
              clear hrest
              rcases Htest.out _ hbel with h5 | ⟨h5, h6⟩ | ⟨b, o, B2, d2, b', o', B3, d3, L, h5, h6, rfl, rfl, x0, x1⟩
              · have t0 : decide (0 < n) = false := decide_eq_false (by omega)
                clear h5
                go_wp2
                go_quiet (fail)
                go_wp2
                go_loopw [4, 52] (fun s4 s52 wr => ∃ k : Nat, k ≤ m ∧ s52 = .int .i64 (k : Int) ∧ wr.ownsRow w.heap.size 34 1 s4 k ((maskTo pss qss k).map fun x : Nat => Value.int .u64 (x : Int)) ∧ Below w.heap.size w wr) (fun _ s52 _ => m - (intOf s52).toNat)
                case atStart => exact ⟨0, Nat.zero_le _, rfl, World.ownsRow_nil _ _ _ _, below_drewN' hbel _⟩
                case round =>
                  clear hbel
                  obtain ⟨k, hk, rfl, hown, hbel⟩ := hrel
                  by_cases hlt : k < m
                  · have hltq : k < qss.length := by rw [Hm'.out]; exact hlt
                    obtain ⟨b4, o4, B4, d4, hBe, hb4, c4, hv4⟩ := (Hm.out _ hbel).at hltq
                    have hsg := Hsg.out _ _ _ _ hbel hv4 (List.getElem_mem hltq)
                    have hv4l := hv4.len
                    have hst := Hstep.out k hlt
                    have hD : maskD pss (qss.getD k []) = maskN (zeroD pss qss[k]) n := by
                        have e : qss.getD k [] = qss[k] := by simp [List.getD, hltq]
                        unfold maskD
                        rw [e, Hn.out]
                    rw [hD] at hst
                    have Hst := Lib.hid hst
                    have Hsg2 := Lib.hid hsg
                    have hs2 := Hsgn.out qss[k]
                    have Hs2 := Lib.hid hs2
                    have hk1 : k ≤ 1024 := by omega
                    clear hst hsg hv4 hD hs2
                    try subst hBe
                    try (cases hBe)
                    generalize qss[k] = q at *
                    generalize q.length = ql at *
                    go_wp2_with fail
                    refine Hsg2.out.mono ?_
                    rintro e w3 ⟨As, cs, rfl, hints, hb3⟩
                    have hown3 := own_below hown hb3
                    have hB3 := from_ hbel hb3
                    have Hsig := Lib.hid (Hs2.out w3 As cs hints)
                    clear hown hbel hints hb3 c4 Hsg2
                    go_wp2
                    go_loopw [10, 64] (fun s10 s64 wr => ∃ j : Nat, j ≤ n ∧ s64 = .int .i64 (j : Int) ∧ s10 = .int .u64 (maskN (zeroD pss q) j : Int) ∧ w3 = wr) (fun _ s64 _ => n - (intOf s64).toNat)
                    case atStart => exact ⟨0, Nat.zero_le _, rfl, rfl, rfl⟩
                    case round =>
                      obtain ⟨j, hj, rfl, rfl, rfl⟩ := hrel
                      by_cases hjn : j < n
                      · obtain ⟨b5, o5, rfl, hb5, g, c5, hzg⟩ := Hsig.out j hjn
                        have hml := maskN_lt (zeroD pss q) j
                        have hj64 : j < 64 := by omega
                        have hp64 := pow_lt64 hj64
                        by_cases hg : g = 0
                        · subst hg
                          have hy := maskN_yes (hzg.trans (decide_eq_true rfl))
                          have hor := u64_or_nat (maskN (zeroD pss q) j) (2 ^ j) (by omega) hp64
                          rw [or_pow hml] at hor
                          rw [← hy] at hor
                          have hw := wrap_pow hj64
                          clear hy hml
                          generalize 2 ^ j = p at *
                          generalize maskN (zeroD pss q) j = x at *
                          go_wp2
                          go_roundw
                          case rel => exact ⟨j + 1, by omega, by go_num, by first | rfl | trivial, by trivial⟩
                          case measure => simp [intOf]; omega
                        · have tg : ((g : Int) == 0) = false := beq_eq_false_iff_ne.2 hg
                          have hno := maskN_no (hzg.trans (decide_eq_false hg))
                          have Hno := Lib.hid hno
                          clear hno hzg hg hml hp64
                          generalize maskN (zeroD pss q) j = x at *
                          go_wp2
                          go_roundw
                          case rel => exact ⟨j + 1, by omega, by go_num, by rw [Hno.out], by trivial⟩
                          case measure => simp [intOf]; omega
                      · obtain rfl : n = j := by omega
                        have hx := Nat.lt_of_lt_of_le (maskN_lt (zeroD pss q) n) (pow_le64 h3)
                        generalize maskN (zeroD pss q) n = x at *
                        go_wp2_with (at_builtin; go_loud (refine wpList_app1 _ rfl _ _ 22 rfl w.heap.size 34 i0 (.int .u64 0) Try.underlying22 hi hz0 hz1 hz2 rfl _ _ _ rfl (hown3.alloc _) w3.heap.size (.int .u64 (x : Int)) rfl (cell_newest rfl rfl) rfl (by omega) (by have := hB3.size; simp; omega) ?_); intro v' w5 hown' hgrow; go_loud (have hb5 : Below w.heap.size w w5 := (hB3.alloc hB3.size _).grown hgrow (by have := hB3.size; simp; omega) (own_nil_of hown3)))
                        go_roundw
                        case rel =>
                          refine ⟨k + 1, by omega, by go_num, ?_, hb5⟩
                          rw [Hst.out]
                          simpa using hown'
                        case measure => simp [intOf]; omega
                  · obtain rfl : m = k := by omega
                    have hfin := isU_own hown (Hsm.out _)
                    have HF := Lib.hid hfin
                    clear hfin hown
                    go_wp2
                    go_ret2
                    exact ⟨_, rfl, HF.out, hbel⟩
              · have t0 : decide (0 < n) = true := decide_eq_true h5
                have t1 : decide (0 < m) = false := decide_eq_false (by omega)
                clear h6
                go_wp2
                go_quiet (fail)
                go_wp2
                go_loopw [4, 52] (fun s4 s52 wr => ∃ k : Nat, k ≤ m ∧ s52 = .int .i64 (k : Int) ∧ wr.ownsRow w.heap.size 34 1 s4 k ((maskTo pss qss k).map fun x : Nat => Value.int .u64 (x : Int)) ∧ Below w.heap.size w wr) (fun _ s52 _ => m - (intOf s52).toNat)
                case atStart => exact ⟨0, Nat.zero_le _, rfl, World.ownsRow_nil _ _ _ _, below_drewN' hbel _⟩
                case round =>
                  clear hbel
                  obtain ⟨k, hk, rfl, hown, hbel⟩ := hrel
                  by_cases hlt : k < m
                  · have hltq : k < qss.length := by rw [Hm'.out]; exact hlt
                    obtain ⟨b4, o4, B4, d4, hBe, hb4, c4, hv4⟩ := (Hm.out _ hbel).at hltq
                    have hsg := Hsg.out _ _ _ _ hbel hv4 (List.getElem_mem hltq)
                    have hv4l := hv4.len
                    have hst := Hstep.out k hlt
                    have hD : maskD pss (qss.getD k []) = maskN (zeroD pss qss[k]) n := by
                        have e : qss.getD k [] = qss[k] := by simp [List.getD, hltq]
                        unfold maskD
                        rw [e, Hn.out]
                    rw [hD] at hst
                    have Hst := Lib.hid hst
                    have Hsg2 := Lib.hid hsg
                    have hs2 := Hsgn.out qss[k]
                    have Hs2 := Lib.hid hs2
                    have hk1 : k ≤ 1024 := by omega
                    clear hst hsg hv4 hD hs2
                    try subst hBe
                    try (cases hBe)
                    generalize qss[k] = q at *
                    generalize q.length = ql at *
                    go_wp2_with fail
                    refine Hsg2.out.mono ?_
                    rintro e w3 ⟨As, cs, rfl, hints, hb3⟩
                    have hown3 := own_below hown hb3
                    have hB3 := from_ hbel hb3
                    have Hsig := Lib.hid (Hs2.out w3 As cs hints)
                    clear hown hbel hints hb3 c4 Hsg2
                    go_wp2
                    go_loopw [10, 64] (fun s10 s64 wr => ∃ j : Nat, j ≤ n ∧ s64 = .int .i64 (j : Int) ∧ s10 = .int .u64 (maskN (zeroD pss q) j : Int) ∧ w3 = wr) (fun _ s64 _ => n - (intOf s64).toNat)
                    case atStart => exact ⟨0, Nat.zero_le _, rfl, rfl, rfl⟩
                    case round =>
                      obtain ⟨j, hj, rfl, rfl, rfl⟩ := hrel
                      by_cases hjn : j < n
                      · obtain ⟨b5, o5, rfl, hb5, g, c5, hzg⟩ := Hsig.out j hjn
                        have hml := maskN_lt (zeroD pss q) j
                        have hj64 : j < 64 := by omega
                        have hp64 := pow_lt64 hj64
                        by_cases hg : g = 0
                        · subst hg
                          have hy := maskN_yes (hzg.trans (decide_eq_true rfl))
                          have hor := u64_or_nat (maskN (zeroD pss q) j) (2 ^ j) (by omega) hp64
                          rw [or_pow hml] at hor
                          rw [← hy] at hor
                          have hw := wrap_pow hj64
                          clear hy hml
                          generalize 2 ^ j = p at *
                          generalize maskN (zeroD pss q) j = x at *
                          go_wp2
                          go_roundw
                          case rel => exact ⟨j + 1, by omega, by go_num, by first | rfl | trivial, by trivial⟩
                          case measure => simp [intOf]; omega
                        · have tg : ((g : Int) == 0) = false := beq_eq_false_iff_ne.2 hg
                          have hno := maskN_no (hzg.trans (decide_eq_false hg))
                          have Hno := Lib.hid hno
                          clear hno hzg hg hml hp64
                          generalize maskN (zeroD pss q) j = x at *
                          go_wp2
                          go_roundw
                          case rel => exact ⟨j + 1, by omega, by go_num, by rw [Hno.out], by trivial⟩
                          case measure => simp [intOf]; omega
                      · obtain rfl : n = j := by omega
                        have hx := Nat.lt_of_lt_of_le (maskN_lt (zeroD pss q) n) (pow_le64 h3)
                        generalize maskN (zeroD pss q) n = x at *
                        go_wp2_with (at_builtin; go_loud (refine wpList_app1 _ rfl _ _ 22 rfl w.heap.size 34 i0 (.int .u64 0) Try.underlying22 hi hz0 hz1 hz2 rfl _ _ _ rfl (hown3.alloc _) w3.heap.size (.int .u64 (x : Int)) rfl (cell_newest rfl rfl) rfl (by omega) (by have := hB3.size; simp; omega) ?_); intro v' w5 hown' hgrow; go_loud (have hb5 : Below w.heap.size w w5 := (hB3.alloc hB3.size _).grown hgrow (by have := hB3.size; simp; omega) (own_nil_of hown3)))
                        go_roundw
                        case rel =>
                          refine ⟨k + 1, by omega, by go_num, ?_, hb5⟩
                          rw [Hst.out]
                          simpa using hown'
                        case measure => simp [intOf]; omega
                  · obtain rfl : m = k := by omega
                    have hfin := isU_own hown (Hsm.out _)
                    have HF := Lib.hid hfin
                    clear hfin hown
                    go_wp2
                    go_ret2
                    exact ⟨_, rfl, HF.out, hbel⟩
              · have t0 : decide (0 < n) = true := decide_eq_true h5
                have t1 : decide (0 < m) = true := decide_eq_true h6
                have t2 : ((L : Int) != (L : Int)) = false := bne_self_eq_false _
                go_wp2
                go_quiet (fail)
                go_wp2
                go_loopw [4, 52] (fun s4 s52 wr => ∃ k : Nat, k ≤ m ∧ s52 = .int .i64 (k : Int) ∧ wr.ownsRow w.heap.size 34 1 s4 k ((maskTo pss qss k).map fun x : Nat => Value.int .u64 (x : Int)) ∧ Below w.heap.size w wr) (fun _ s52 _ => m - (intOf s52).toNat)
                case atStart => exact ⟨0, Nat.zero_le _, rfl, World.ownsRow_nil _ _ _ _, below_drewN' hbel _⟩
                case round =>
                  clear hbel
                  obtain ⟨k, hk, rfl, hown, hbel⟩ := hrel
                  by_cases hlt : k < m
                  · have hltq : k < qss.length := by rw [Hm'.out]; exact hlt
                    obtain ⟨b4, o4, B4, d4, hBe, hb4, c4, hv4⟩ := (Hm.out _ hbel).at hltq
                    have hsg := Hsg.out _ _ _ _ hbel hv4 (List.getElem_mem hltq)
                    have hv4l := hv4.len
                    have hst := Hstep.out k hlt
                    have hD : maskD pss (qss.getD k []) = maskN (zeroD pss qss[k]) n := by
                        have e : qss.getD k [] = qss[k] := by simp [List.getD, hltq]
                        unfold maskD
                        rw [e, Hn.out]
                    rw [hD] at hst
                    have Hst := Lib.hid hst
                    have Hsg2 := Lib.hid hsg
                    have hs2 := Hsgn.out qss[k]
                    have Hs2 := Lib.hid hs2
                    have hk1 : k ≤ 1024 := by omega
                    clear hst hsg hv4 hD hs2
                    try subst hBe
                    try (cases hBe)
                    generalize qss[k] = q at *
                    generalize q.length = ql at *
                    go_wp2_with fail
                    refine Hsg2.out.mono ?_
                    rintro e w3 ⟨As, cs, rfl, hints, hb3⟩
                    have hown3 := own_below hown hb3
                    have hB3 := from_ hbel hb3
                    have Hsig := Lib.hid (Hs2.out w3 As cs hints)
                    clear hown hbel hints hb3 c4 Hsg2
                    go_wp2
                    go_loopw [10, 64] (fun s10 s64 wr => ∃ j : Nat, j ≤ n ∧ s64 = .int .i64 (j : Int) ∧ s10 = .int .u64 (maskN (zeroD pss q) j : Int) ∧ w3 = wr) (fun _ s64 _ => n - (intOf s64).toNat)
                    case atStart => exact ⟨0, Nat.zero_le _, rfl, rfl, rfl⟩
                    case round =>
                      obtain ⟨j, hj, rfl, rfl, rfl⟩ := hrel
                      by_cases hjn : j < n
                      · obtain ⟨b5, o5, rfl, hb5, g, c5, hzg⟩ := Hsig.out j hjn
                        have hml := maskN_lt (zeroD pss q) j
                        have hj64 : j < 64 := by omega
                        have hp64 := pow_lt64 hj64
                        by_cases hg : g = 0
                        · subst hg
                          have hy := maskN_yes (hzg.trans (decide_eq_true rfl))
                          have hor := u64_or_nat (maskN (zeroD pss q) j) (2 ^ j) (by omega) hp64
                          rw [or_pow hml] at hor
                          rw [← hy] at hor
                          have hw := wrap_pow hj64
                          clear hy hml
                          generalize 2 ^ j = p at *
                          generalize maskN (zeroD pss q) j = x at *
                          go_wp2
                          go_roundw
                          case rel => exact ⟨j + 1, by omega, by go_num, by first | rfl | trivial, by trivial⟩
                          case measure => simp [intOf]; omega
                        · have tg : ((g : Int) == 0) = false := beq_eq_false_iff_ne.2 hg
                          have hno := maskN_no (hzg.trans (decide_eq_false hg))
                          have Hno := Lib.hid hno
                          clear hno hzg hg hml hp64
                          generalize maskN (zeroD pss q) j = x at *
                          go_wp2
                          go_roundw
                          case rel => exact ⟨j + 1, by omega, by go_num, by rw [Hno.out], by trivial⟩
                          case measure => simp [intOf]; omega
                      · obtain rfl : n = j := by omega
                        have hx := Nat.lt_of_lt_of_le (maskN_lt (zeroD pss q) n) (pow_le64 h3)
                        generalize maskN (zeroD pss q) n = x at *
                        go_wp2_with (at_builtin; go_loud (refine wpList_app1 _ rfl _ _ 22 rfl w.heap.size 34 i0 (.int .u64 0) Try.underlying22 hi hz0 hz1 hz2 rfl _ _ _ rfl (hown3.alloc _) w3.heap.size (.int .u64 (x : Int)) rfl (cell_newest rfl rfl) rfl (by omega) (by have := hB3.size; simp; omega) ?_); intro v' w5 hown' hgrow; go_loud (have hb5 : Below w.heap.size w w5 := (hB3.alloc hB3.size _).grown hgrow (by have := hB3.size; simp; omega) (own_nil_of hown3)))
                        go_roundw
                        case rel =>
                          refine ⟨k + 1, by omega, by go_num, ?_, hb5⟩
                          rw [Hst.out]
                          simpa using hown'
                        case measure => simp [intOf]; omega
                  · obtain rfl : m = k := by omega
                    have hfin := isU_own hown (Hsm.out _)
                    have HF := Lib.hid hfin
                    clear hfin hown
                    go_wp2
                    go_ret2
                    exact ⟨_, rfl, HF.out, hbel⟩
        · obtain ⟨p0, q0, h5⟩ : ∃ (p0 : 0 < pss.length) (q0 : 0 < qss.length), pss[0].length ≠ qss[0].length := Classical.byContradiction fun hn => h4 fun p0 q0 => Classical.byContradiction fun h5 => hn ⟨p0, q0, h5⟩
          have hE := errMk_dim h1 h2 h3 p0 q0 h5
          rw [hE, masksL_no (by rw [hE]; decide)]
          have Htest : Hid (∀ w1, Below w.heap.size w w1 → ∃ (b o : Nat) (B2 : Option Addr) (d2 : Nat) (b' o' : Nat) (B3 : Option Addr) (d3 L M : Nat), L ≠ M ∧ L ≤ 9223372036854775807 ∧ M ≤ 9223372036854775807 ∧ A = some ⟨b, o, none⟩ ∧ B = some ⟨b', o', none⟩ ∧ w1.cell? ⟨b, o, none⟩ = some (.slice B2 L d2) ∧ w1.cell? ⟨b', o', none⟩ = some (.slice B3 M d3)) := fun w1 hw => by
            obtain ⟨b, o, B2, d2, e, hb, c0, hv⟩ := ha.at p0
            obtain ⟨b', o', B3, d3, e', hb', c0', hv'⟩ := hm.at q0
            rw [Nat.add_zero] at c0 c0'
            exact ⟨b, o, B2, d2, b', o', B3, d3, _, _, h5, hv.len, hv'.len, e, e', keepC hw c0, keepC hw c0'⟩
          have t0 : decide (0 < pss.length) = true := decide_eq_true p0
          have t1 : decide (0 < qss.length) = true := decide_eq_true q0
          clear hE h1 h2 h4 h5 ha hm hK1 hK2
          generalize hn : pss.length = n at *
          generalize hm' : qss.length = m at *
          clear hn hm'
          go_enter Try.func29, Try.ntmps29
          go_wp2
          go_loopw [5, 18] (fun s5 s18 wr => ∃ z : Int, (z = 0 ∨ z = 1 ∨ z = 2) ∧ s18 = .int .i64 z ∧ s5 = .int .i64 0 ∧ Below w.heap.size w wr ∧ (z = 0 → w = wr)) (fun _ s18 _ => (2 - intOf s18).toNat)
          case atStart => exact ⟨0, .inl rfl, rfl, rfl, Below.refl _ _, fun _ => rfl⟩
          case round =>
            obtain ⟨k, hk, rfl, rfl, hbel, hw0⟩ := hrel
            rcases hk with rfl | rfl | rfl
            · obtain rfl := hw0 rfl
              go_wp2_with fail
              refine Hc1.out.mono ?_
              rintro e w1 ⟨rfl, hb1⟩
              go_wp2
              go_roundw
              case rel => exact ⟨1, .inr (.inl rfl), by first | rfl | trivial, by first | rfl | trivial, hb1, fun h => absurd h (by decide)⟩
              case measure => simp [intOf]
            · clear hw0
              go_wp2_with fail
              refine (Hc2.out _ hbel).mono ?_
              rintro e w1 ⟨rfl, hb1⟩
              have hb2 := from_ hbel hb1
              go_wp2
              go_roundw
              case rel => exact ⟨2, .inr (.inr rfl), by first | rfl | trivial, by first | rfl | trivial, hb2, fun h => absurd h (by decide)⟩
              case measure => simp [intOf]
            · clear hw0
              obtain ⟨b, o, B2, d2, b', o', B3, d3, L, M, h5, hL, hM, rfl, rfl, x0, x1⟩ := Htest.out _ hbel
              have t2 : ((L : Int) != (M : Int)) = true := by simp; omega
              clear h5 Htest
              go_wp2
              go_quiet (fail)
              go_wp2
              go_ret2
              exact ⟨_, rfl, IsU.nil _ _, below_drewN' hbel _⟩
      · have hE := errMk_many h1 h2 h3
        rw [hE, masksL_no (by rw [hE]; decide)]
        have m3 : decide ((64 : Int) < (pss.length : Int)) = true := decide_eq_true (by omega)
        clear hE h1 h2 h3 ha hm hK1 hK2
        generalize hn : pss.length = n at *
        generalize hm' : qss.length = m at *
        clear hn hm'
        go_enter Try.func29, Try.ntmps29
        go_wp2
        go_loopw [5, 18] (fun s5 s18 wr => ∃ z : Int, (z = 0 ∨ z = 1 ∨ z = 2) ∧ s18 = .int .i64 z ∧ s5 = .int .i64 0 ∧ Below w.heap.size w wr ∧ (z = 0 → w = wr)) (fun _ s18 _ => (2 - intOf s18).toNat)
        case atStart => exact ⟨0, .inl rfl, rfl, rfl, Below.refl _ _, fun _ => rfl⟩
        case round =>
          obtain ⟨k, hk, rfl, rfl, hbel, hw0⟩ := hrel
          rcases hk with rfl | rfl | rfl
          · obtain rfl := hw0 rfl
            go_wp2_with fail
            refine Hc1.out.mono ?_
            rintro e w1 ⟨rfl, hb1⟩
            go_wp2
            go_roundw
            case rel => exact ⟨1, .inr (.inl rfl), by first | rfl | trivial, by first | rfl | trivial, hb1, fun h => absurd h (by decide)⟩
            case measure => simp [intOf]
          · clear hw0
            go_wp2_with fail
            refine (Hc2.out _ hbel).mono ?_
            rintro e w1 ⟨rfl, hb1⟩
            have hb2 := from_ hbel hb1
            go_wp2
            go_roundw
            case rel => exact ⟨2, .inr (.inr rfl), by first | rfl | trivial, by first | rfl | trivial, hb2, fun h => absurd h (by decide)⟩
            case measure => simp [intOf]
          · clear hw0
            go_wp2
            go_ret2
            exact ⟨_, rfl, IsU.nil _ _, hbel⟩
    · have hE := errMk_two h1 h2
      rw [masksL_no (by rw [hE]; exact h2), hE]
      have t0 : (errR qss != 0) = true := by simp [h2]
      have Hc2 := Lib.hid hc2
      clear hE h1 h2 ha hm hK1 hK2 hc1 hc2
      generalize hn : pss.length = n at *
      generalize hm' : qss.length = m at *
      clear hn hm'
      generalize errR qss = E at *
      go_enter Try.func29, Try.ntmps29
      go_wp2
      go_loopw [5, 18] (fun s5 s18 wr => ∃ z : Int, (z = 0 ∨ z = 1) ∧ s18 = .int .i64 z ∧ s5 = .int .i64 0 ∧ Below w.heap.size w wr ∧ (z = 0 → w = wr)) (fun _ s18 _ => (2 - intOf s18).toNat)
      case atStart => exact ⟨0, .inl rfl, rfl, rfl, Below.refl _ _, fun _ => rfl⟩
      case round =>
        obtain ⟨k, hk, rfl, rfl, hbel, hw0⟩ := hrel
        rcases hk with rfl | rfl
        · obtain rfl := hw0 rfl
          go_wp2_with fail
          refine Hc1.out.mono ?_
          rintro e w1 ⟨rfl, hb1⟩
          go_wp2
          go_roundw
          case rel => exact ⟨1, .inr rfl, by first | rfl | trivial, by first | rfl | trivial, hb1, fun h => absurd h (by decide)⟩
          case measure => simp [intOf]
        · clear hw0
          go_wp2_with fail
          refine (Hc2.out _ hbel).mono ?_
          rintro e w1 ⟨rfl, hb1⟩
          have hb2 := from_ hbel hb1
          go_wp2
          go_ret2
          exact ⟨_, rfl, IsU.nil _ _, hb2⟩
  · have hE := errMk_one (qss := qss) h1
    rw [masksL_no (by rw [hE]; exact h1), hE]
    have t0 : (errR pss != 0) = true := by simp [h1]
    have Hc1 := Lib.hid hc1
    clear hE h1 ha hm hK1 hK2 hc1 hc2
    generalize hn : pss.length = n at *
    generalize hm' : qss.length = m at *
    clear hn hm'
    generalize errR pss = E at *
    go_enter Try.func29, Try.ntmps29
    go_wp2
    go_loopw [5, 18] (fun s5 s18 wr => s18 = .int .i64 0 ∧ s5 = .int .i64 0 ∧ w = wr) (fun _ s18 _ => (2 - intOf s18).toNat)
    case atStart => exact ⟨rfl, rfl, rfl⟩
    case round =>
      obtain ⟨rfl, rfl, rfl⟩ := hrel
      go_wp2_with fail
      refine Hc1.out.mono ?_
      rintro e w1 ⟨rfl, hb1⟩
      go_wp2
      go_ret2
      exact ⟨_, rfl, IsU.nil _ _, hb1⟩

end Go.Proofs.Ytjnjlgknmocdlaa

namespace Go.Proofs.Ytjnjlgknmocdlaa
open Go.RowKit
set_option linter.unusedVariables false
set_option linter.unusedSimpArgs false

/-- A row of numbers as signs and words. -/
def encV (xs : List Int) : List (Bool × List Nat) := xs.map fun x => (decide (x < 0), limbs x.natAbs)
theorem encV_nm (xs : List Int) : NmV xs (encV xs) := rfl
theorem encV_len (xs : List Int) : (encV xs).length = xs.length := by simp [encV]
theorem zsV_enc (xs : List Int) : zsV (encV xs) = xs := by
  unfold zsV encV
  rw [List.map_map]
  conv => rhs; rw [← List.map_id xs]
  apply List.map_congr_left
  intro x _
  exact zof_z x
theorem encV_okV {xs : List Int} (h : xs.length ≤ 64) : okV (encV xs) = true := (encV_nm xs).okV (by rw [encV_len]; exact h)
theorem sgnD_enc (xs ys : List Int) : sgnD (encV xs) (encV ys) = sgn (dotZ xs ys) := by unfold sgnD; rw [zsV_enc, zsV_enc]
theorem errR_enc {xss : List (List Int)} {n : Nat} (h : ∀ xs ∈ xss, xs.length = n) (h0 : 0 < n) (h1 : n ≤ 64) (hl : xss.length ≤ 1024) : errR (xss.map encV) = 0 := by
  have hj : ∀ j (hj : j < (xss.map encV).length), (xss.map encV)[j].length = n ∧ okV (xss.map encV)[j] = true := fun j hj => by
    have hx := h (xss[j]'(by simpa using hj)) (List.getElem_mem _)
    rw [List.getElem_map, encV_len]
    exact ⟨hx, encV_okV (by omega)⟩
  refine errR_good (by simpa using hl) (okR_iff.2 fun j hjl => ?_) fun j hjl h3 => ?_
  · obtain ⟨a, b⟩ := hj j hjl
    unfold okR1
    rw [b, a, decide_eq_true h0]
    rfl
  · rw [(hj j hjl).1, (hj 0 h3).1]
theorem errG_enc {xs : List Int} {xss : List (List Int)} {n : Nat} (h : ∀ ys ∈ xss, ys.length = n) (h0 : 0 < n) (h1 : n ≤ 64) (hl : xss.length ≤ 1024) (hx : xs.length = n) : errG (encV xs) (xss.map encV) = 0 := by
  refine errG_good (errR_enc h h0 h1 hl) (encV_okV (by omega)) fun h3 => ?_
  rw [List.getElem_map, encV_len, encV_len, hx]
  exact h _ (List.getElem_mem (by simpa using h3))
theorem signsL_enc {xs : List Int} {xss : List (List Int)} (h : errG (encV xs) (xss.map encV) = 0) : signsL (encV xs) (xss.map encV) = xss.map fun ys => sgn (dotZ xs ys) := by
  unfold signsL
  rw [if_pos h, List.map_map]
  apply List.map_congr_left
  intro ys _
  exact sgnD_enc xs ys
theorem errMk_enc {xss yss : List (List Int)} {n : Nat} (h : ∀ xs ∈ xss, xs.length = n) (h2 : ∀ ys ∈ yss, ys.length = n) (h0 : 0 < n) (h1 : n ≤ 64) (hl : xss.length ≤ 64) (hl2 : yss.length ≤ 1024) : errMk (xss.map encV) (yss.map encV) = 0 := by
  refine errMk_good (errR_enc h h0 h1 (by omega)) (errR_enc h2 h0 h1 hl2) (by simpa using hl) fun p0 q0 => ?_
  rw [List.getElem_map, List.getElem_map, encV_len, encV_len, h _ (List.getElem_mem (by simpa using p0)), h2 _ (List.getElem_mem (by simpa using q0))]
def maskZ (xss : List (List Int)) (ys : List Int) : Nat := maskN (fun i => decide (sgn (dotZ ys (xss.getD i [])) = 0)) xss.length
theorem maskN_congr {f g : Nat → Bool} {n : Nat} (h : ∀ i, i < n → f i = g i) : maskN f n = maskN g n := by
  induction n with
  | zero => rfl
  | succ n ih => rw [maskN, maskN, ih fun i hi => h i (by omega), h n (by omega)]
theorem maskD_enc (xss : List (List Int)) (ys : List Int) : maskD (xss.map encV) (encV ys) = maskZ xss ys := by
  unfold maskD maskZ
  rw [List.length_map]
  refine maskN_congr fun i hi => ?_
  unfold zeroD
  have e : (xss.map encV).getD i [] = encV (xss.getD i []) := by simp [List.getD, hi]
  rw [e, sgnD_enc]
theorem masksL_enc {xss yss : List (List Int)} (h : errMk (xss.map encV) (yss.map encV) = 0) : masksL (xss.map encV) (yss.map encV) = yss.map (maskZ xss) := by
  unfold masksL
  rw [if_pos h, List.map_map]
  apply List.map_congr_left
  intro ys _
  exact maskD_enc xss ys
theorem encV_lim {xs : List Int} (h : ∀ x ∈ xs, x.natAbs < 18446744073709551616) : ∀ p ∈ encV xs, p.2.length ≤ 1 := nmV_small (encV_nm xs) h

/-- A row of two ints, made. -/
theorem vof_two (w : World) (x y : Int) (hx : -9223372036854775808 ≤ x ∧ x ≤ 9223372036854775807) (hy : -9223372036854775808 ≤ y ∧ y ≤ 9223372036854775807) :
    Calls Try.prog 77 #[.slice (some ⟨w.heap.size, 0, none⟩) 2 2] (w.alloc (.cells #[.int .i64 x, .int .i64 y] 3)) fun e w' => ∃ A c, e = .returned (.slice A 2 c) ∧ VecAt w' old A c (encV [x, y]) ∧ Below w.heap.size w w' := by
  refine (vof_n (ints2 w x y 3 hx hy) (encV_nm [x, y]) (by simp)).mono ?_
  rintro e w' ⟨A, c, rfl, hv, hb⟩
  exact ⟨A, c, by rw [encV_len]; rfl, hv, from_ ((Below.refl _ _).alloc (Nat.le_refl _) _) hb⟩

theorem vof_two_at (w : World) (g : Nat) (hg : w.heap.size = g) (x y : Int) (hx : -9223372036854775808 ≤ x ∧ x ≤ 9223372036854775807) (hy : -9223372036854775808 ≤ y ∧ y ≤ 9223372036854775807) :
    Calls Try.prog 77 #[.slice (some ⟨g, 0, none⟩) 2 2] (w.alloc (.cells #[.int .i64 x, .int .i64 y] 3)) fun e w' => ∃ A c, e = .returned (.slice A 2 c) ∧ VecAt w' old A c (encV [x, y]) ∧ Below w.heap.size w w' := by
  subst hg
  exact vof_two w x y hx hy

/-- Words that are written out. -/
theorem isU_lits (w : World) (l : List Nat) (t : TypeId) (hs : Small l) (hl : l.length ≤ 1000) : IsU (w.alloc (.cells (l.map fun x : Nat => Value.int .u64 (x : Int)).toArray t)) old (.slice (some ⟨w.heap.size, 0, none⟩) l.length l.length) l := by
  refine ⟨_, _, rfl, hs, Nat.le_refl _, by omega, (fun h => by cases h), fun h0 => ⟨w.heap.size, 0, rfl, trivial, fun h => h.elim, fun j u hu => ?_⟩⟩
  rw [Nat.zero_add]
  have hj : j < l.length := by have := (List.getElem?_eq_some_iff.1 hu).1; simpa using this
  refine cell_newest (by simp) ?_
  simpa using hu

theorem mat_lit2 {w : World} {p0 p1 : List (Bool × List Nat)} {A0 A1 : Option Addr} {c0 c1 : Nat} (t : TypeId) (h0 : VecAt w old A0 c0 p0) (h1 : VecAt w old A1 c1 p1) :
    MatAt (w.alloc (.cells #[.slice A0 p0.length c0, .slice A1 p1.length c1] t)) old (some ⟨w.heap.size, 0, none⟩) 2 [p0, p1] := by
  have hb : Below w.heap.size w (w.alloc (.cells #[.slice A0 p0.length c0, .slice A1 p1.length c1] t)) := (Below.refl _ _).alloc (Nat.le_refl _) _
  refine ⟨by simp, by omega, fun _ => ⟨w.heap.size, 0, rfl, by simp, fun j hj => ?_⟩⟩
  match j, hj with
  | 0, _ => exact ⟨A0, c0, cell_newest rfl rfl, h0.below hb⟩
  | 1, _ => exact ⟨A1, c1, cell_newest rfl rfl, h1.below hb⟩

theorem mat_lit3 {w : World} {p0 p1 p2 : List (Bool × List Nat)} {A0 A1 A2 : Option Addr} {c0 c1 c2 : Nat} (t : TypeId) (h0 : VecAt w old A0 c0 p0) (h1 : VecAt w old A1 c1 p1) (h2 : VecAt w old A2 c2 p2) :
    MatAt (w.alloc (.cells #[.slice A0 p0.length c0, .slice A1 p1.length c1, .slice A2 p2.length c2] t)) old (some ⟨w.heap.size, 0, none⟩) 3 [p0, p1, p2] := by
  have hb : Below w.heap.size w (w.alloc (.cells #[.slice A0 p0.length c0, .slice A1 p1.length c1, .slice A2 p2.length c2] t)) := (Below.refl _ _).alloc (Nat.le_refl _) _
  refine ⟨by simp, by omega, fun _ => ⟨w.heap.size, 0, rfl, by simp, fun j hj => ?_⟩⟩
  match j, hj with
  | 0, _ => exact ⟨A0, c0, cell_newest rfl rfl, h0.below hb⟩
  | 1, _ => exact ⟨A1, c1, cell_newest rfl rfl, h1.below hb⟩
  | 2, _ => exact ⟨A2, c2, cell_newest rfl rfl, h2.below hb⟩

theorem mat_lit4 {w : World} {p0 p1 p2 p3 : List (Bool × List Nat)} {A0 A1 A2 A3 : Option Addr} {c0 c1 c2 c3 : Nat} (t : TypeId) (h0 : VecAt w old A0 c0 p0) (h1 : VecAt w old A1 c1 p1) (h2 : VecAt w old A2 c2 p2) (h3 : VecAt w old A3 c3 p3) :
    MatAt (w.alloc (.cells #[.slice A0 p0.length c0, .slice A1 p1.length c1, .slice A2 p2.length c2, .slice A3 p3.length c3] t)) old (some ⟨w.heap.size, 0, none⟩) 4 [p0, p1, p2, p3] := by
  have hb : Below w.heap.size w (w.alloc (.cells #[.slice A0 p0.length c0, .slice A1 p1.length c1, .slice A2 p2.length c2, .slice A3 p3.length c3] t)) := (Below.refl _ _).alloc (Nat.le_refl _) _
  refine ⟨by simp, by omega, fun _ => ⟨w.heap.size, 0, rfl, by simp, fun j hj => ?_⟩⟩
  match j, hj with
  | 0, _ => exact ⟨A0, c0, cell_newest rfl rfl, h0.below hb⟩
  | 1, _ => exact ⟨A1, c1, cell_newest rfl rfl, h1.below hb⟩
  | 2, _ => exact ⟨A2, c2, cell_newest rfl rfl, h2.below hb⟩
  | 3, _ => exact ⟨A3, c3, cell_newest rfl rfl, h3.below hb⟩

set_option maxRecDepth 100000 in
set_option maxHeartbeats 4000000 in
theorem alive19 (w : World) : Calls Try.prog 31 #[] w fun e w' => e = .returned (.bool true) ∧ Below w.heap.size w w' := by
  have hB : Below w.heap.size w w := Below.refl _ _
  have hV := Lib.hid vof_two_at
  have hS : Hid (∀ (w1 : World) (Aa A0 A1 A2 : Option Addr) (ca c0 c1 c2 : Nat), VecAt w1 old Aa ca (encV [1, -1]) → VecAt w1 old A0 c0 (encV [1, 1]) → VecAt w1 old A1 c1 (encV [2, 0]) → VecAt w1 old A2 c2 (encV [0, 3]) →
      Calls Try.prog 27 #[.slice Aa 2 ca, .slice (some ⟨w1.heap.size, 0, none⟩) 3 3] (w1.alloc (.cells #[.slice A0 2 c0, .slice A1 2 c1, .slice A2 2 c2] 53)) fun e w' => ∃ As cs, e = .returned (.tuple #[.slice As 3 cs, .int .i64 0]) ∧ IsInts w' old (.slice As 3 cs) [0, 1, -1] ∧ Below w1.heap.size w1 w') := fun w1 Aa A0 A1 A2 ca c0 c1 c2 ha h0 h1 h2 => by
    have hal : Below w1.heap.size w1 (w1.alloc (.cells #[.slice A0 2 c0, .slice A1 2 c1, .slice A2 2 c2] 53)) := (Below.refl _ _).alloc (Nat.le_refl _) _
    have hm := mat_lit3 53 h0 h1 h2
    have hE : errG (encV [1, -1]) ([[1, 1], [2, 0], [0, 3]].map encV) = 0 := errG_enc (n := 2) (by simp) (by omega) (by omega) (by simp) rfl
    have h := satsigns_any (K := 1) (ha.below hal) hm (encV_lim (by simp)) (fun _ qs hq => by
      simp only [List.mem_cons, List.not_mem_nil, or_false] at hq
      rcases hq with rfl | rfl | rfl <;> exact encV_lim (by simp)) (by omega)
    have hL := signsL_enc hE
    rw [show ([[1, 1], [2, 0], [0, 3]] : List (List Int)).map encV = [encV [1, 1], encV [2, 0], encV [0, 3]] from rfl] at hE hL
    rw [hE, hL] at h
    refine h.mono ?_
    rintro e w' ⟨u, rfl, hu, hb⟩
    have e1 : ([[1, 1], [2, 0], [0, 3]] : List (List Int)).map (fun ys => sgn (dotZ [1, -1] ys)) = [0, 1, -1] := by decide
    rw [e1] at hu
    obtain ⟨As, cs, rfl, h5⟩ := hu
    exact ⟨As, cs, rfl, ⟨As, cs, rfl, h5⟩, from_ hal hb⟩
  have hM : Hid (∀ (w1 : World) (B : Option Addr) (d : Nat) (A0 A1 A2 A3 : Option Addr) (c0 c1 c2 c3 : Nat), MatAt w1 old B d [encV [1, 0], encV [0, 1]] → VecAt w1 old A0 c0 (encV [0, 5]) → VecAt w1 old A1 c1 (encV [3, 0]) → VecAt w1 old A2 c2 (encV [1, 1]) → VecAt w1 old A3 c3 (encV [0, 0]) →
      Calls Try.prog 29 #[.slice B 2 d, .slice (some ⟨w1.heap.size, 0, none⟩) 4 4] (w1.alloc (.cells #[.slice A0 2 c0, .slice A1 2 c1, .slice A2 2 c2, .slice A3 2 c3] 53)) fun e w' => ∃ As cs, e = .returned (.tuple #[.slice As 4 cs, .int .i64 0]) ∧ IsU w' old (.slice As 4 cs) [1, 2, 0, 3] ∧ Below w1.heap.size w1 w') := fun w1 B d A0 A1 A2 A3 c0 c1 c2 c3 hp h0 h1 h2 h3 => by
    have hal : Below w1.heap.size w1 (w1.alloc (.cells #[.slice A0 2 c0, .slice A1 2 c1, .slice A2 2 c2, .slice A3 2 c3] 53)) := (Below.refl _ _).alloc (Nat.le_refl _) _
    have hm := mat_lit4 53 h0 h1 h2 h3
    have hE : errMk ([[1, 0], [0, 1]].map encV) ([[0, 5], [3, 0], [1, 1], [0, 0]].map encV) = 0 := errMk_enc (n := 2) (by simp) (by simp) (by omega) (by omega) (by simp) (by simp)
    have h := satmasks_any (K := 1) (hp.below hal) hm (fun _ qs hq => by
      simp only [List.mem_cons, List.not_mem_nil, or_false] at hq
      rcases hq with rfl | rfl <;> exact encV_lim (by simp)) (fun _ qs hq => by
      simp only [List.mem_cons, List.not_mem_nil, or_false] at hq
      rcases hq with rfl | rfl | rfl | rfl <;> exact encV_lim (by simp)) (by omega)
    have hL := masksL_enc hE
    rw [show ([[1, 0], [0, 1]] : List (List Int)).map encV = [encV [1, 0], encV [0, 1]] from rfl, show ([[0, 5], [3, 0], [1, 1], [0, 0]] : List (List Int)).map encV = [encV [0, 5], encV [3, 0], encV [1, 1], encV [0, 0]] from rfl] at hE hL
    rw [hE, hL] at h
    refine h.mono ?_
    rintro e w' ⟨u, rfl, hu, hb⟩
    have e1 : ([[0, 5], [3, 0], [1, 1], [0, 0]] : List (List Int)).map (maskZ [[1, 0], [0, 1]]) = [1, 2, 0, 3] := by decide
    rw [e1] at hu
    obtain ⟨As, cs, rfl, h5⟩ := hu
    exact ⟨As, cs, rfl, ⟨As, cs, rfl, h5⟩, from_ hal hb⟩
  have hI : Hid (∀ (w1 : World) (As : Option Addr) (cs : Nat), IsInts w1 old (.slice As 3 cs) [0, 1, -1] → Calls Try.prog 24 #[.slice As 3 cs, .slice (some ⟨w1.heap.size, 0, none⟩) 3 3] (w1.alloc (.cells #[.int .i64 0, .int .i64 1, .int .i64 (-1)] 3)) fun e w' => e = .returned (.bool true) ∧ Below w1.heap.size w1 w') := fun w1 As cs h => by
    have hal : Below w1.heap.size w1 (w1.alloc (.cells #[.int .i64 0, .int .i64 1, .int .i64 (-1)] 3)) := (Below.refl _ _).alloc (Nat.le_refl _) _
    refine (ints_dec (isInts_below h hal) (ints3 w1 0 1 (-1) 3 (by omega) (by omega) (by omega))).mono ?_
    rintro e w' ⟨rfl, hb⟩
    exact ⟨rfl, from_ hal hb⟩
  have hW : Hid (∀ (w1 : World) (As : Option Addr) (cs : Nat), IsU w1 old (.slice As 4 cs) [1, 2, 0, 3] → Calls Try.prog 23 #[.slice As 4 cs, .slice (some ⟨w1.heap.size, 0, none⟩) 4 4] (w1.alloc (.cells #[.int .u64 1, .int .u64 2, .int .u64 0, .int .u64 3] 34)) fun e w' => e = .returned (.bool true) ∧ Below w1.heap.size w1 w') := fun w1 As cs h => by
    have hal : Below w1.heap.size w1 (w1.alloc (.cells #[.int .u64 1, .int .u64 2, .int .u64 0, .int .u64 3] 34)) := (Below.refl _ _).alloc (Nat.le_refl _) _
    refine (words_dec (h.below hal) (isU_lits w1 [1, 2, 0, 3] 34 (fun x hx => by simp only [List.mem_cons, List.not_mem_nil, or_false] at hx; omega) (by simp))).mono ?_
    rintro e w' ⟨rfl, hb⟩
    exact ⟨rfl, from_ hal hb⟩
  go_enter Try.func31, Try.ntmps31
  go_wp2_with fail
  refine (hV.out _ _ (by simp) (1) (-1) (by omega) (by omega)).mono ?_
  rintro e w1 ⟨Aa, ca, rfl, va, hb⟩
  replace hB := from_ hB hb
  clear hb
  go_wp2_with fail
  refine (hV.out _ _ (by simp) (1) (1) (by omega) (by omega)).mono ?_
  rintro e w2 ⟨Ap, cp, rfl, vp, hb⟩
  replace va := va.below hb
  replace hB := from_ hB hb
  clear hb
  go_wp2_with fail
  refine (hV.out _ _ (by simp) (2) (0) (by omega) (by omega)).mono ?_
  rintro e w3 ⟨Aq, cq, rfl, vq, hb⟩
  replace va := va.below hb
  replace vp := vp.below hb
  replace hB := from_ hB hb
  clear hb
  go_wp2_with fail
  refine (hV.out _ _ (by simp) (0) (3) (by omega) (by omega)).mono ?_
  rintro e w4 ⟨Ar, cr, rfl, vr, hb⟩
  replace va := va.below hb
  replace vp := vp.below hb
  replace vq := vq.below hb
  replace hB := from_ hB hb
  clear hb
  go_wp2_with fail
  refine (hS.out _ _ _ _ _ _ _ _ _ va vp vq vr).mono ?_
  rintro e w5 ⟨Aw, cw, rfl, iw, hb⟩
  clear va
  clear vp
  clear vq
  clear vr
  replace hB := from_ hB hb
  clear hb
  go_wp2_with fail
  refine (hV.out _ _ (by simp) (1) (0) (by omega) (by omega)).mono ?_
  rintro e w6 ⟨As, cs, rfl, vs, hb⟩
  replace iw := isInts_below iw hb
  replace hB := from_ hB hb
  clear hb
  go_wp2_with fail
  refine (hV.out _ _ (by simp) (0) (1) (by omega) (by omega)).mono ?_
  rintro e w7 ⟨At, ct, rfl, vt, hb⟩
  replace iw := isInts_below iw hb
  replace vs := vs.below hb
  replace hB := from_ hB hb
  clear hb
  have hal : Below w7.heap.size w7 (w7.alloc (.cells #[.slice As 2 cs, .slice At 2 ct] 53)) := (Below.refl _ _).alloc (Nat.le_refl _) _
  have vm := mat_lit2 53 vs vt
  clear vs vt
  replace iw := isInts_below iw hal
  replace hB := from_ hB hal
  clear hal
  go_wp2_with fail
  refine (hV.out _ _ (by simp) (0) (5) (by omega) (by omega)).mono ?_
  rintro e w8 ⟨Ab, cb, rfl, vb, hb⟩
  replace iw := isInts_below iw hb
  replace vm := vm.below hb
  replace hB := from_ hB hb
  clear hb
  go_wp2_with fail
  refine (hV.out _ _ (by simp) (3) (0) (by omega) (by omega)).mono ?_
  rintro e w9 ⟨Ac, cc, rfl, vc, hb⟩
  replace iw := isInts_below iw hb
  replace vm := vm.below hb
  replace vb := vb.below hb
  replace hB := from_ hB hb
  clear hb
  go_wp2_with fail
  refine (hV.out _ _ (by simp) (1) (1) (by omega) (by omega)).mono ?_
  rintro e w10 ⟨Ad, cd, rfl, vd, hb⟩
  replace iw := isInts_below iw hb
  replace vm := vm.below hb
  replace vb := vb.below hb
  replace vc := vc.below hb
  replace hB := from_ hB hb
  clear hb
  go_wp2_with fail
  refine (hV.out _ _ (by simp) (0) (0) (by omega) (by omega)).mono ?_
  rintro e w11 ⟨Af, cf, rfl, vf, hb⟩
  replace iw := isInts_below iw hb
  replace vm := vm.below hb
  replace vb := vb.below hb
  replace vc := vc.below hb
  replace vd := vd.below hb
  replace hB := from_ hB hb
  clear hb
  go_wp2_with fail
  refine (hM.out _ _ _ _ _ _ _ _ _ _ _ vm vb vc vd vf).mono ?_
  rintro e w12 ⟨Ax, cx, rfl, ux, hb⟩
  clear vm
  clear vb
  clear vc
  clear vd
  clear vf
  replace iw := isInts_below iw hb
  replace hB := from_ hB hb
  clear hb
  go_wp2_with fail
  refine (hI.out _ _ _ iw).mono ?_
  rintro e w13 ⟨rfl, hb⟩
  clear iw
  replace ux := ux.below hb
  replace hB := from_ hB hb
  clear hb
  go_wp2_with fail
  refine (hW.out _ _ _ ux).mono ?_
  rintro e w14 ⟨rfl, hb⟩
  clear ux
  replace hB := from_ hB hb
  clear hb
  go_wp2
  go_ret
  exact ⟨by first | rfl | trivial, hB⟩

end Go.Proofs.Ytjnjlgknmocdlaa

namespace Go.Proofs.Ytjnjlgknmocdlaa
open Go.RowKit Go.Shelf
set_option linter.unusedVariables false
set_option linter.unusedSimpArgs false

theorem turnE_many {ms : List Nat} {n : Int} (h : ¬ ms.length ≤ 4096) : turnE ms n = 4 := by unfold turnE; rw [if_neg h]
theorem turnE_arg {ms : List Nat} {n : Int} (h : ms.length ≤ 4096) (h2 : ¬ (0 ≤ n ∧ n ≤ 64 ∧ ms.length ≤ 64)) : turnE ms n = 2 := by unfold turnE; rw [if_pos h, if_neg h2]
theorem turnE_good {ms : List Nat} {n : Nat} (h : ms.length ≤ 64) (hn : n ≤ 64) (h2 : ∀ m ∈ ms, fitB m n = true) : turnE ms n = 0 := by
  unfold turnE
  rw [if_pos (by omega), if_pos ⟨by omega, by omega, h⟩, if_pos]
  rw [Int.toNat_natCast]
  exact List.all_eq_true.2 h2
theorem turnE_bad {ms : List Nat} {n : Nat} (h : ms.length ≤ 64) (hn : n ≤ 64) {m : Nat} (hm : m ∈ ms) (h2 : fitB m n = false) : turnE ms n = 8 := by
  unfold turnE
  rw [if_pos (by omega), if_pos ⟨by omega, by omega, h⟩, if_neg]
  rw [Int.toNat_natCast]
  intro h3
  rw [List.all_eq_true.1 h3 m hm] at h2
  cases h2
theorem turnL_no {ms : List Nat} {n : Int} (h : turnE ms n ≠ 0) : turnL ms n = [] := by unfold turnL; rw [if_neg h]
theorem turnL_yes {ms : List Nat} {n : Nat} (h : turnE ms n = 0) : turnL ms n = colsN ms n ms.length := by unfold turnL; rw [if_pos h, Int.toNat_natCast]

section
attribute [local go_sem] Oper.semAt_some

/-- Marks for calls that are deferred, of which there are none. -/
def marksOf (Ds : List Nat) : List Deferred := Ds.map fun D => { target := .collected D, args := #[] }

/-- What is left where all marks are taken. -/
def Shut (Ds : List Nat) (W W' : World) : Prop := W'.heap.size = W.heap.size ∧ (∀ k, k ∉ Ds → W'.heap[k]? = W.heap[k]?) ∧ W'.os = W.os ∧ W'.tape = W.tape ∧ W'.output = W.output
theorem Shut.below {Ds : List Nat} {B : Nat} {w X Y : World} (h : Shut Ds X Y) (hb : Below B w X) (hD : ∀ D ∈ Ds, B ≤ D) : Below B w Y :=
  ⟨h.2.2.1.trans hb.os, h.2.2.2.1.trans hb.tape, h.2.2.2.2.trans hb.output, by rw [h.1]; exact hb.size, fun k hk => (h.2.1 k (fun hm => by have := hD k hm; omega)).trans (hb.block k hk)⟩

theorem leaves_marks {F : Fence} {n : Nat} {P : Program} {fn : Func} {tmps : Array Value} {R : Ending → World → Prop} :
    ∀ (Ds : List Nat) (W : World), Ds.Nodup → (∀ D ∈ Ds, W.heap[D]? = some (.deferred (some []))) → (∀ W', Shut Ds W W' → LeavesInM F n P fn tmps R [] .returning W') → LeavesInM F n P fn tmps R (marksOf Ds) .returning W := by
  intro Ds
  induction Ds with
  | nil => exact fun W _ _ h => h W ⟨rfl, fun _ _ => rfl, rfl, rfl, rfl⟩
  | cons D Ds ih =>
    intro W hnd hD h
    obtain ⟨hn1, hn2⟩ := List.nodup_cons.1 hnd
    refine ⟨by simp, .inl ⟨_, _, rfl, run_takeDeferred (hD D (by simp)), ih _ hn2 (fun D' hD' => ?_) fun W' hW' => h W' ⟨?_, fun k hk => ?_, hW'.2.2.1, hW'.2.2.2.1, hW'.2.2.2.2⟩⟩⟩
    · rw [World.putObj_heap_other (fun e => hn1 (by rw [← e]; exact hD'))]
      exact hD D' (by simp [hD'])
    · rw [hW'.1]
      simp [World.putObj]
    · rw [List.mem_cons, not_or] at hk
      rw [hW'.2.1 k hk.2, World.putObj_heap_other hk.1]

set_option maxRecDepth 100000 in
set_option maxHeartbeats 4000000 in
theorem satturn_good {w : World} {Z : Zone} {A : Option Addr} {c : Nat} {ms : List Nat} {n : Nat} (hu : U64s w Z A c ms) (h64 : ms.length ≤ 64) (hn : n ≤ 64) :
    Calls Try.prog 17 #[.slice A ms.length c, .int .i64 (n : Int)] w fun e w' => ∃ u, e = .returned (.tuple #[u, .int .i64 (turnE ms n)]) ∧ IsU w' old u (turnL ms n) ∧ Below w.heap.size w w' := by
  have hlen := hu.len
  have hck := fun (w1 : World) => satchecked_any (w := w1) (A := A) (c := c) hlen
  have e1 : errK ms = 0 := by unfold errK; rw [if_pos (by omega)]
  rw [e1] at hck
  have Hck := Lib.hid hck
  have HU := Lib.hid hu
  obtain ⟨i0, hi, hz0, hz1, hz2⟩ := info_parts infoW
  have m1 : decide ((n : Int) < 0) = false := decide_eq_false (by omega)
  have m2 : decide ((64 : Int) < (n : Int)) = false := decide_eq_false (by omega)
  have m3 : decide ((64 : Int) < (ms.length : Int)) = false := decide_eq_false (by omega)
  clear hck e1 hu
  have hwf : ∀ f, Fence.wide.fn f := fun _ => trivial
  refine (callsIn_wide (n := 3)).1 ?_
  refine callsIn_of_wp_marks Try.func17 rfl trivial ?_ rfl
  simp only [Try.ntmps17, List.size_toArray, List.length_cons, List.length_nil, Nat.reduceAdd, Nat.reduceSub, Array.replicate_succ, Array.replicate_zero, List.push_toArray, List.append_toArray, List.nil_append, List.cons_append]
  gi_wp2_with (first
    | (gi_at_call 65; refine (callsIn_wide.2 (Hck.out _)).mono ?_; rintro e w' ⟨rfl, rfl⟩)
    | (gi_at_make; go_loud (refine wpListIn_make_full _ rfl _ _ 22 rfl w.heap.size 34 i0 (.int .u64 0) 1 Try.underlying22 hi hz0 hz1 .i64 .i64 _ _ n rfl rfl rfl rfl (by rw [hz2]; omega) (by simp only [maxLen]; omega) (by simp; omega) ?_); intro w4 hown hgrow; obtain ⟨x1, x2, x3, hB4, hs4⟩ := three_boxes hgrow; have y1 := x1.cell; have y2 := x2.cell; have y3 := x3.cell; have f1 := x1.frozen; have f2 := x2.frozen; have f3 := x3.frozen))
  have hcells : (madeCells (Value.int .u64 0).cells (n * 1)).toList = (List.replicate n 0).map fun x : Nat => Value.int .u64 (x : Int) := by
    rw [Nat.mul_one, List.map_replicate]
    simpa [Value.cells] using toList_madeCells_one (.int .u64 0) n
  rw [hcells] at hown
  simp only [World.size_alloc] at hown
  have hrow4 := (isU_after (B := w.heap.size) (Small.replicate0 _) (by simp) hown (Nat.le_refl _)).only_ trivial
  have hlt4 : w.heap.size + 1 + 1 + 1 < w4.heap.size := (hown.lt _ rfl).2
  have hcol0 : List.replicate n 0 = colsN ms n 0 := by
    apply List.ext_getElem (by simp [colsN])
    intro i h1 h2
    simp [colsN, colK]
  rw [hcol0] at hrow4
  have hal : ∀ (W : World) o, Below W.heap.size W (W.alloc o) := fun W o => (Below.refl _ W).alloc (Nat.le_refl _) _
  have hB0 : Below w.heap.size w (w4.alloc (.cells #[.slice (some ⟨w.heap.size + 1 + 1 + 1, 0, none⟩) n n] 22)) := hB4.alloc (by omega) _
  have hrow0 := hrow4.below (hal _ (.cells #[.slice (some ⟨w.heap.size + 1 + 1 + 1, 0, none⟩) n n] 22))
  have bN := x1.alloc (.cells #[.slice (some ⟨w.heap.size + 1 + 1 + 1, 0, none⟩) n n] 22)
  have bO := x2.alloc (.cells #[.slice (some ⟨w.heap.size + 1 + 1 + 1, 0, none⟩) n n] 22)
  have bE := x3.alloc (.cells #[.slice (some ⟨w.heap.size + 1 + 1 + 1, 0, none⟩) n n] 22)
  have bT := Boxed.new w4 22 (.slice (some ⟨w.heap.size + 1 + 1 + 1, 0, none⟩) n n)
  have hsz0 : (w4.alloc (.cells #[.slice (some ⟨w.heap.size + 1 + 1 + 1, 0, none⟩) n n] 22)).heap.size = w4.heap.size + 1 := by simp
  clear hcells hown hgrow hrow4 hcol0 y1 y2 y3 f1 f2 f3 x1 x2 x3 hB4 hs4
  generalize w4.alloc (.cells #[.slice (some ⟨w.heap.size + 1 + 1 + 1, 0, none⟩) n n] 22) = W0 at *
  refine wpIn_loop (fun a wr => ∃ (k : Nat) (u8 u9 u32 u33 u34 u35 u36 u37 u50 : Value) (Ds : List Nat), a = { tmps := #[.slice A ms.length c, .int .i64 (n : Int), undef, .pointer (some ⟨w.heap.size, 0, none⟩), .pointer (some ⟨w.heap.size + 1, 0, none⟩), .pointer (some ⟨w.heap.size + 1 + 1, 0, none⟩), .int .i64 0, .pointer (some ⟨w4.heap.size, 0, none⟩), u8, u9, undef, .slice A ms.length c, .int .i64 0, .int .i64 0, .bool false, undef, .int .i64 (n : Int), .bool false, .bool false, .int .i64 (n : Int), .bool false, .bool false, .bool false, .slice A ms.length c, .int .i64 (ms.length : Int), .bool false, .bool false, .int .i64 (n : Int), .slice (some ⟨w.heap.size + 1 + 1 + 1, 0, none⟩) n n, .slice A ms.length c, .int .i64 (ms.length : Int), .int .i64 (k : Int), u32, u33, u34, u35, u36, u37, undef, undef, undef, undef, undef, undef, undef, undef, undef, undef, undef, undef, u50, undef], defers := marksOf Ds } ∧ k ≤ ms.length ∧ Ds.Nodup ∧ (∀ D ∈ Ds, W0.heap.size ≤ D ∧ wr.heap[D]? = some (.deferred (some []))) ∧
      (∀ b, b < W0.heap.size → b ≠ w.heap.size + 1 + 1 + 1 → wr.heap[b]? = W0.heap[b]?) ∧ W0.heap.size ≤ wr.heap.size ∧ U64s wr (only (w.heap.size + 1 + 1 + 1)) (some ⟨w.heap.size + 1 + 1 + 1, 0, none⟩) n (colsN ms n k) ∧ Below w.heap.size w wr ∧ (∀ j, j < k → fitB (ms.getD j 0) n = true))
    (fun a _ => ms.length - (intOf (a.tmps.getD 31 undef)).toNat) ⟨0, undef, undef, undef, undef, undef, undef, undef, undef, undef, [], rfl, Nat.zero_le _, List.nodup_nil, fun D h => by simp at h, fun _ _ _ => rfl, Nat.le_refl _, hrow0, hB0, fun j h => absurd h (by omega)⟩ ?_
  rintro _ wr ⟨k, u8, u9, u32, u33, u34, u35, u36, u37, u50, Ds, rfl, hk, hnd, hDs, hsame, hszr, hrow, hbel, hfit⟩
  have bN' : Boxed wr w.heap.size 3 (.int .i64 (n : Int)) := (hsame _ (by omega) (by omega)).trans bN
  have bT' : Boxed wr w4.heap.size 22 (.slice (some ⟨w.heap.size + 1 + 1 + 1, 0, none⟩) n n) := (hsame _ (by omega) (by omega)).trans bT
  have hcN := bN'.cell
  have hcT := bT'.cell
  have bO' : Boxed wr (w.heap.size + 1) 22 (.slice none 0 0) := (hsame _ (by omega) (by omega)).trans bO
  have bE' : Boxed wr (w.heap.size + 1 + 1) 28 (.int .i64 0) := (hsame _ (by omega) (by omega)).trans bE
  by_cases hlt : k < ms.length
  · obtain ⟨b, o, rfl, hbb, xk, yk⟩ := (HU.out.below hbel).getD hlt
    have hmk : ms.getD k 0 ∈ ms := by
      have e : ms.getD k 0 = ms[k] := by simp [List.getD, hlt]
      rw [e]
      exact List.getElem_mem hlt
    have Hmk := Lib.hid hmk
    clear hmk
    obtain ⟨m, em⟩ : ∃ m, m = ms.getD k 0 := ⟨_, rfl⟩
    rw [← em] at xk yk
    have Em := Lib.hid em
    clear em
    have Hsame := Lib.hid hsame
    have Hfit := Lib.hid hfit
    have HDs := Lib.hid hDs
    have Hrow := Lib.hid hrow
    have Hnd := Lib.hid hnd
    clear hsame hfit hDs hrow hnd
    gi_wp2_with (gi_at_call 66; refine (callsIn_wide.2 (bits_any _ _)).mono ?_; rintro e w' ⟨rfl, rfl⟩)
    obtain ⟨G, hG⟩ : ∃ G, G = w.heap.size + 1 + 1 + 1 := ⟨_, rfl⟩
    have hal2 : Below wr.heap.size wr ((wr.alloc (.cells #[.int .i64 (k : Int)] 3)).alloc (.cells #[.int .u64 (m : Int)] 34)) := ((Below.refl _ _).alloc (Nat.le_refl _) _).alloc (by simp) _
    have bK2 := (Boxed.new wr 3 (.int .i64 (k : Int))).alloc (.cells #[.int .u64 (m : Int)] 34)
    have bM2 := Boxed.new (wr.alloc (.cells #[.int .i64 (k : Int)] 3)) 34 (.int .u64 (m : Int))
    have hz2' : ((wr.alloc (.cells #[.int .i64 (k : Int)] 3)).alloc (.cells #[.int .u64 (m : Int)] 34)).heap.size = wr.heap.size + 2 := by simp
    simp only [World.size_alloc] at bM2
    have bN2 : Boxed _ w.heap.size 3 (.int .i64 (n : Int)) := (hal2.block _ (by omega)).trans bN'
    have bT2 : Boxed _ w4.heap.size 22 (.slice (some ⟨w.heap.size + 1 + 1 + 1, 0, none⟩) n n) := (hal2.block _ (by omega)).trans bT'
    have bO2 : Boxed _ (w.heap.size + 1) 22 (.slice none 0 0) := (hal2.block _ (by omega)).trans bO'
    have bE2 : Boxed _ (w.heap.size + 1 + 1) 28 (.int .i64 0) := (hal2.block _ (by omega)).trans bE'
    have hrow2 := Hrow.out.below hal2
    have Hlow2 : Hid (∀ q, q < wr.heap.size → ((wr.alloc (.cells #[.int .i64 (k : Int)] 3)).alloc (.cells #[.int .u64 (m : Int)] 34)).heap[q]? = wr.heap[q]?) := fun q hq => hal2.block q hq
    have HB2 := Lib.hid (hbel.trans (hal2.mono hbel.size))
    generalize (wr.alloc (.cells #[.int .i64 (k : Int)] 3)).alloc (.cells #[.int .u64 (m : Int)] 34) = W2 at *
    clear hal2 xk hbb hcN hcT bN' bT' bO' bE'
    refine wpIn_range_move (F := Fence.wide) (n := 3) rfl (by omega) (gf := 117) (lb := #[.pointer (some ⟨wr.heap.size + 1, 0, none⟩)]) rfl trivial (enters_of Try.func117 (by kernel_rfl) rfl)
      (encs := encBit m) (Kp := SameAt (wr.heap.size + 1)) (Mv := Only (wr.heap.size + 1)) (S := fun ys => ys.map (·.1) = bitsTo m 64) (Sp := fun _ => True) (fun _ => rfl)
      (fun h1 h2 => h2.trans h1) (fun W l o' hl => World.putObj_heap_other (by omega)) (fun X Y h => ⟨Nat.le_of_eq h.1.symm, fun q o hq hX _ => (h.2.1 q (by omega)).trans hX⟩)
      (fun pre W => Hid (∀ x ∈ pre, x.1 < n) ∧ U64s W (only (w.heap.size + 1 + 1 + 1)) (some ⟨w.heap.size + 1 + 1 + 1, 0, none⟩) n (turnO ms n k (pre.map (·.1))) ∧ (∀ q, q < W2.heap.size → q ≠ w.heap.size + 1 + 1 + 1 → q ≠ wr.heap.size + 1 → W.heap[q]? = W2.heap[q]?) ∧ W2.heap.size ≤ W.heap.size ∧ Below w.heap.size w W)
      (fun cd pre W => cd = .ret ∧ Hid (∃ x ∈ pre, n ≤ x.1) ∧ Boxed W (w.heap.size + 1) 22 (.slice none 0 0) ∧ Boxed W (w.heap.size + 1 + 1) 28 (.int .i64 8) ∧ (∀ q, q < W2.heap.size → q ≠ w.heap.size + 1 + 1 + 1 → q ≠ wr.heap.size + 1 → q ≠ w.heap.size + 1 → q ≠ w.heap.size + 1 + 1 → W.heap[q]? = W2.heap[q]?) ∧ W2.heap.size ≤ W.heap.size ∧ Below w.heap.size w W)
      (fun s X Y row hs hg hr => ⟨hs.1, hs.2.1.grown (B := W2.heap.size) hg (fun r e => (hr r e).1) (fun q hq => by have h1 : q = w.heap.size + 1 + 1 + 1 := hq; omega), fun q h1 h2 h3 => (hg.block q (by have := hs.2.2.2.1; omega) (fun e => by have := (hr q e.symm).1; omega)).trans (hs.2.2.1 q h1 h2 h3), Nat.le_trans hs.2.2.2.1 hg.size, hs.2.2.2.2.grown hg hs.2.2.2.2.size (fun r e => by have := (hr r e).1; omega)⟩)
      (fun cd s X Y row hs hg hr => ⟨hs.1, hs.2.1, hs.2.2.1.kept hg (fun e => by have := (hr _ e.symm).1; omega), hs.2.2.2.1.kept hg (fun e => by have := (hr _ e.symm).1; omega), fun q h1 h2 h3 h4 h5 => (hg.block q (by have := hs.2.2.2.2.2.1; omega) (fun e => by have := (hr q e.symm).1; omega)).trans (hs.2.2.2.2.1 q h1 h2 h3 h4 h5), Nat.le_trans hs.2.2.2.2.2.1 hg.size, hs.2.2.2.2.2.2.grown hg hs.2.2.2.2.2.2.size (fun r e => by have := (hr r e).1; omega)⟩)
      (fun pre X Y hs ho => ⟨hs.1, hs.2.1.keep (fun q hq _ => ho.2.1 q (by have h1 : q = w.heap.size + 1 + 1 + 1 := hq; omega)), fun q h1 h2 h3 => (ho.2.1 q h3).trans (hs.2.2.1 q h1 h2 h3), Nat.le_trans hs.2.2.2.1 (Nat.le_of_eq ho.1.symm), ho.below hs.2.2.2.2 (by omega)⟩)
      ⟨fun x hx => by simp at hx, by rw [List.map_nil, turnO_nil]; exact hrow2, fun _ _ _ _ => rfl, Nat.le_refl _, HB2.out⟩
      (fun x => { tmps := #[.slice (some ⟨b, o, none⟩) ms.length c, .int .i64 (n : Int), undef, .pointer (some ⟨w.heap.size, 0, none⟩), .pointer (some ⟨w.heap.size + 1, 0, none⟩), .pointer (some ⟨w.heap.size + 1 + 1, 0, none⟩), .int .i64 0, .pointer (some ⟨w4.heap.size, 0, none⟩), .pointer (some ⟨wr.heap.size, 0, none⟩), .int .u64 (m : Int), .int .i64 (x.1 : Int), .slice (some ⟨b, o, none⟩) ms.length c, .int .i64 0, .int .i64 0, .bool false, undef, .int .i64 (n : Int), .bool false, .bool false, .int .i64 (n : Int), .bool false, .bool false, .bool false, .slice (some ⟨b, o, none⟩) ms.length c, .int .i64 (ms.length : Int), .bool false, .bool false, .int .i64 (n : Int), .slice (some ⟨w.heap.size + 1 + 1 + 1, 0, none⟩) n n, .slice (some ⟨b, o, none⟩) ms.length c, .int .i64 (ms.length : Int), .int .i64 (k : Int), .bool true, .int .i64 (k : Int), .pointer (some ⟨b, o + k, none⟩), .int .u64 (m : Int), .int .u64 (m : Int), .func (.func 117) #[] #[.pointer (some ⟨wr.heap.size + 1, 0, none⟩)], .int .i64 (x.1 : Int), undef, undef, undef, undef, undef, undef, undef, undef, undef, undef, undef, u50, undef], defers := [] })
      (fun W1 h1 hlo J Jx hJ _ hY h0 => (bits1_in 2 (by omega) _ (wr.heap.size + 1) m yk J Jx W1 hJ hY ((hlo _ (by omega)).trans bM2) h0).mono fun e W' h => ⟨h.1, h.2.imp id fun ⟨pre, hp⟩ => ⟨pre, trivial, hp⟩⟩)
      ?assign ?body ?done ?stop
    case assign =>
      intro l x W K hK
      gi_wp2
      exact hK
    case body =>
      rintro l pre ⟨i, hi64, hib⟩ W ⟨hft, hrw, hsm, hzz, hbw⟩
      have bN3 : Boxed W w.heap.size 3 (.int .i64 (n : Int)) := (hsm _ (by omega) (by omega) (by omega)).trans bN2
      have bT3 : Boxed W w4.heap.size 22 (.slice (some ⟨w.heap.size + 1 + 1 + 1, 0, none⟩) n n) := (hsm _ (by omega) (by omega) (by omega)).trans bT2
      have bK3 : Boxed W wr.heap.size 3 (.int .i64 (k : Int)) := (hsm _ (by omega) (by omega) (by omega)).trans bK2
      have cN3 := bN3.cell
      have cT3 := bT3.cell
      have cK3 := bK3.cell
      by_cases hin : i < n
      · have t0 : decide (n ≤ i) = false := decide_eq_false (by omega)
        have hol : (turnO ms n k (pre.map (·.1))).length = n := turnO_len _ _ _ _
        have hil : i < (turnO ms n k (pre.map (·.1))).length := by omega
        have hcG := hrw.cellAt hil
        have hfG := hrw.frozenAt trivial (by omega) i
        rw [Nat.zero_add] at hcG hfG
        have hcl := colK_lt ms i k
        have hk64 : k < 64 := by omega
        have hp64 := pow_lt64 hk64
        have hvl : colK ms i k + 2 ^ k < 18446744073709551616 := by
          have := pow_le64 (show k + 1 ≤ 64 by omega)
          rw [Nat.pow_succ] at this
          omega
        have hor := u64_or_nat ((turnO ms n k (pre.map (·.1)))[i]) (2 ^ k) (hrw.small.get hil) hp64
        rw [turnO_or hin] at hor
        have hw := wrap_pow hk64
        have hst := hrw.store hil hvl
        rw [Nat.zero_add, turnO_set hin] at hst
        have Hst := Lib.hid hst
        have Hsm := Lib.hid hsm
        have Hft : Hid (∀ x ∈ pre ++ [(⟨i, hi64, hib⟩ : BitOf m)], x.1 < n) := fun x hx => by
          rcases List.mem_append.1 hx with hx | hx
          · exact hft.out x hx
          · rw [List.mem_singleton.1 hx]; exact hin
        generalize (turnO ms n k (pre.map (·.1)))[i] = ov at *
        generalize colK ms i k + 2 ^ k = nv at *
        generalize 2 ^ k = p at *
        clear hst hsm hcl hvl hrw hft
        gi_wp2
        gi_region
        all_goals
          gi_wp2
          have hset : ∀ q, q ≠ w.heap.size + 1 + 1 + 1 → ((W.setCell ⟨w.heap.size + 1 + 1 + 1, i, none⟩ (.int .u64 (nv : Int))).drew).heap[q]? = W.heap[q]? := fun q hq => Below.heap_setCell _ _ _ _ hq
          have hssz : ((W.setCell ⟨w.heap.size + 1 + 1 + 1, i, none⟩ (.int .u64 (nv : Int))).drew).heap.size = W.heap.size := by simp [World.setCell]
          refine ⟨⟨Nat.le_of_eq hssz.symm, fun q o' hB hX _ => (hset q (by omega)).trans hX⟩, hset _ (by omega), Hft, ?_, fun q h1 h2 h3 => (hset q h2).trans (Hsm.out q h1 h2 h3), by omega, (hbw.setCell (p := ⟨w.heap.size + 1 + 1 + 1, i, none⟩) (show w.heap.size ≤ w.heap.size + 1 + 1 + 1 by omega) _).drew⟩
          rw [List.map_append]
          exact Hst.out.below (Below.refl _ _).drew
      · have t0 : decide (n ≤ i) = true := decide_eq_true (by omega)
        have bO3 : Boxed W (w.heap.size + 1) 22 (.slice none 0 0) := (hsm _ (by omega) (by omega) (by omega)).trans bO2
        have bE3 : Boxed W (w.heap.size + 1 + 1) 28 (.int .i64 0) := (hsm _ (by omega) (by omega) (by omega)).trans bE2
        have cO3 := bO3.cell
        have fO3 := bO3.frozen
        have cE3 := bE3.cell
        have fE3 := bE3.frozen
        have Hsm := Lib.hid hsm
        clear hsm
        have hrt := (bO3.set (.slice none 0 0)).other (B' := w.heap.size + 1 + 1) (by omega) (.int .i64 8)
        have hre := (bE3.other (B' := w.heap.size + 1) (by omega) (.slice none 0 0)).set (.int .i64 8)
        have Hrt := Lib.hid hrt
        have Hre := Lib.hid hre
        clear hrt hre hrw hft
        gi_wp2
        have hset : ∀ q, q ≠ w.heap.size + 1 → q ≠ w.heap.size + 1 + 1 → ((W.setCell ⟨w.heap.size + 1, 0, none⟩ (.slice none 0 0)).setCell ⟨w.heap.size + 1 + 1, 0, none⟩ (.int .i64 8)).heap[q]? = W.heap[q]? := fun q hq hq2 => (Below.heap_setCell _ _ _ _ hq2).trans (Below.heap_setCell _ _ _ _ hq)
        have hssz : ((W.setCell ⟨w.heap.size + 1, 0, none⟩ (.slice none 0 0)).setCell ⟨w.heap.size + 1 + 1, 0, none⟩ (.int .i64 8)).heap.size = W.heap.size := by simp [World.setCell]
        exact ⟨⟨Nat.le_of_eq hssz.symm, fun q o' hB hX _ => (hset q (by omega) (by omega)).trans hX⟩, rfl, Lib.hid ⟨⟨i, hi64, hib⟩, by simp, by show n ≤ i; omega⟩, Hrt.out, Hre.out, fun q h1 h2 h3 h4 h5 => (hset q h4 h5).trans (Hsm.out q h1 h2 h3), by omega, (hbw.setCell (p := ⟨w.heap.size + 1, 0, none⟩) (show w.heap.size ≤ w.heap.size + 1 by omega) _).setCell (p := ⟨w.heap.size + 1 + 1, 0, none⟩) (show w.heap.size ≤ w.heap.size + 1 + 1 by omega) _⟩
    case done =>
      rintro D ys W hD hys ⟨hft, hrw, hsm, hzz, hbw⟩ hK
      have hfin : turnO ms n k (ys.map (·.1)) = colsN ms n (k + 1) := turnO_done hn fun i hi => by
        rw [hys, bitsTo_mem, Em.out]
        exact ⟨fun h => h.2, fun h => ⟨hi, h⟩⟩
      rw [hfin] at hrw
      have hfitk : fitB (ms.getD k 0) n = true := fitB_iff.2 fun i hi hb => by
        rw [← Em.out] at hb
        have hm : i ∈ ys.map (·.1) := by rw [hys]; exact bitsTo_mem.2 ⟨hi, hb⟩
        obtain ⟨x, hx, rfl⟩ := List.mem_map.1 hm
        exact hft.out x hx
      have hD2 : ∀ D' ∈ Ds, W.heap[D']? = some (.deferred (some [])) := fun D' hD' => by
        obtain ⟨h1, h2⟩ := HDs.out D' hD'
        have h3 : D' < wr.heap.size := (Array.getElem?_eq_some_iff.1 h2).1
        rw [hsm D' (by omega) (by omega) (by omega), Hlow2.out D' h3]
        exact h2
      have hnew : D ∉ Ds := fun h => by
        have h2 := (HDs.out D h).2
        have h3 : D < wr.heap.size := (Array.getElem?_eq_some_iff.1 h2).1
        omega
      have HF : Hid ((D :: Ds).Nodup ∧ (∀ D' ∈ D :: Ds, W0.heap.size ≤ D' ∧ W.heap[D']? = some (.deferred (some []))) ∧ (∀ q, q < W0.heap.size → q ≠ w.heap.size + 1 + 1 + 1 → W.heap[q]? = W0.heap[q]?) ∧ Below w.heap.size w W ∧ (∀ j, j < k + 1 → fitB (ms.getD j 0) n = true)) := by
        refine ⟨List.nodup_cons.2 ⟨hnew, Hnd.out⟩, fun D' hD' => ?_, fun q h1 h2 => ?_, hbw, fun j hj => ?_⟩
        · rcases List.mem_cons.1 hD' with rfl | h
          · exact ⟨by omega, hK⟩
          · exact ⟨(HDs.out D' h).1, hD2 D' h⟩
        · rw [hsm q (by omega) h2 (by omega), Hlow2.out q (by omega)]
          exact Hsame.out q h1 h2
        · rcases Nat.lt_or_ge j k with h | h
          · exact Hfit.out j h
          · obtain rfl : j = k := by omega
            exact hfitk
      have Hrw := Lib.hid hrw
      clear hfin hfitk hD2 hnew hrw hsm hft hys
      gi_wp2
      refine ⟨⟨k + 1, _, _, _, _, _, _, _, _, _, D :: Ds, rfl, hlt, HF.out.1, HF.out.2.1, HF.out.2.2.1, by omega, Hrw.out, HF.out.2.2.2.1, HF.out.2.2.2.2⟩, ?_⟩
      simp [intOf]
      omega
    case stop =>
      rintro D cd pre W hD _ ⟨rfl, hex, hbo, hbe, hsm, hzz, hbw⟩ hK
      have hE : turnE ms (n : Int) = 8 := by
        obtain ⟨x, _, hx⟩ := hex.out
        refine turnE_bad h64 hn Hmk.out ?_
        cases hf : fitB (ms.getD k 0) n
        · rfl
        · have := fitB_iff.1 hf x.1 x.2.1 (by rw [← Em.out]; exact x.2.2)
          omega
      have HE := Lib.hid hE
      have hD2 : ∀ D' ∈ D :: Ds, W0.heap.size ≤ D' ∧ W.heap[D']? = some (.deferred (some [])) := fun D' hD' => by
        rcases List.mem_cons.1 hD' with rfl | h
        · exact ⟨by omega, hK⟩
        · obtain ⟨h1, h2⟩ := HDs.out D' h
          have h3 : D' < wr.heap.size := (Array.getElem?_eq_some_iff.1 h2).1
          refine ⟨h1, ?_⟩
          rw [hsm D' (by omega) (by omega) (by omega) (by omega) (by omega), Hlow2.out D' h3]
          exact h2
      have hnew : D ∉ Ds := fun h => by
        have h2 := (HDs.out D h).2
        have h3 : D < wr.heap.size := (Array.getElem?_eq_some_iff.1 h2).1
        omega
      have HD2 := Lib.hid hD2
      have Hnew := Lib.hid (List.nodup_cons.2 ⟨hnew, Hnd.out⟩)
      have Hsm := Lib.hid hsm
      clear hE hD2 hnew hsm hK
      gi_wp2
      refine leaves_marks (D :: Ds) W Hnew.out (fun D' h => (HD2.out D' h).2) fun W' hW' => ?_
      have hcO : W'.cell? ⟨w.heap.size + 1, 0, none⟩ = some (.slice none 0 0) := (World.cell?_of_block (a := ⟨w.heap.size + 1, 0, none⟩) (hW'.2.1 (w.heap.size + 1) (fun hm => by have := (HD2.out _ hm).1; omega))).trans hbo.cell
      have hcE : W'.cell? ⟨w.heap.size + 1 + 1, 0, none⟩ = some (.int .i64 8) := (World.cell?_of_block (a := ⟨w.heap.size + 1 + 1, 0, none⟩) (hW'.2.1 (w.heap.size + 1 + 1) (fun hm => by have := (HD2.out _ hm).1; omega))).trans hbe.cell
      refine ⟨.tuple #[.slice none 0 0, .int .i64 8], ?_, .slice none 0 0, ?_, ?_, hW'.below hbw (fun D' h => by have := (HD2.out D' h).1; omega)⟩
      · simp [results, Try.f17, go_sem, hcO, hcE]
      · rw [HE.out]
      · rw [turnL_no (by rw [HE.out]; decide)]
        exact IsU.nil _ _
  · obtain rfl : k = ms.length := by omega
    have hE : turnE ms (n : Int) = 0 := turnE_good h64 hn fun m hm => by
      obtain ⟨j, hj, rfl⟩ := List.getElem_of_mem hm
      have := hfit j hj
      rwa [show ms.getD j 0 = ms[j] by simp [List.getD, hj]] at this
    have HE := Lib.hid hE
    have hrt : Boxed ((wr.setCell ⟨w.heap.size + 1, 0, none⟩ (.slice (some ⟨w.heap.size + 1 + 1 + 1, 0, none⟩) n n)).setCell ⟨w.heap.size + 1 + 1, 0, none⟩ (.int .i64 0)) (w.heap.size + 1) 22 (.slice (some ⟨w.heap.size + 1 + 1 + 1, 0, none⟩) n n) := (bO'.set _).other (B' := w.heap.size + 1 + 1) (by omega) _
    have hre : Boxed ((wr.setCell ⟨w.heap.size + 1, 0, none⟩ (.slice (some ⟨w.heap.size + 1 + 1 + 1, 0, none⟩) n n)).setCell ⟨w.heap.size + 1 + 1, 0, none⟩ (.int .i64 0)) (w.heap.size + 1 + 1) 28 (.int .i64 0) := (bE'.other (B' := w.heap.size + 1) (by omega) _).set _
    have hset : ∀ q, q ≠ w.heap.size + 1 → q ≠ w.heap.size + 1 + 1 → ((wr.setCell ⟨w.heap.size + 1, 0, none⟩ (.slice (some ⟨w.heap.size + 1 + 1 + 1, 0, none⟩) n n)).setCell ⟨w.heap.size + 1 + 1, 0, none⟩ (.int .i64 0)).heap[q]? = wr.heap[q]? := fun q hq hq2 => (Below.heap_setCell _ _ _ _ hq2).trans (Below.heap_setCell _ _ _ _ hq)
    have hbw : Below w.heap.size w ((wr.setCell ⟨w.heap.size + 1, 0, none⟩ (.slice (some ⟨w.heap.size + 1 + 1 + 1, 0, none⟩) n n)).setCell ⟨w.heap.size + 1 + 1, 0, none⟩ (.int .i64 0)) := (hbel.setCell (p := ⟨w.heap.size + 1, 0, none⟩) (show w.heap.size ≤ w.heap.size + 1 by omega) _).setCell (p := ⟨w.heap.size + 1 + 1, 0, none⟩) (show w.heap.size ≤ w.heap.size + 1 + 1 by omega) _
    have cO' := bO'.cell
    have fO' := bO'.frozen
    have cE' := bE'.cell
    have fE' := bE'.frozen
    have Hrt := Lib.hid hrt
    have Hre := Lib.hid hre
    have Hset := Lib.hid hset
    have Hbw := Lib.hid hbw
    have HDs := Lib.hid hDs
    have Hrow := Lib.hid hrow
    have Hnd := Lib.hid hnd
    clear hE hrt hre hset hbw hDs hrow hnd hsame hfit bO' bE' bN' bT' hbel
    gi_wp2
    refine leaves_marks Ds _ Hnd.out (fun D' h => (Hset.out D' (by have := (HDs.out D' h).1; omega) (by have := (HDs.out D' h).1; omega)).trans (HDs.out D' h).2) fun W' hW' => ?_
    have hcO : W'.cell? ⟨w.heap.size + 1, 0, none⟩ = some (.slice (some ⟨w.heap.size + 1 + 1 + 1, 0, none⟩) n n) := (World.cell?_of_block (a := ⟨w.heap.size + 1, 0, none⟩) (hW'.2.1 (w.heap.size + 1) (fun hm => by have := (HDs.out _ hm).1; omega))).trans Hrt.out.cell
    have hcE : W'.cell? ⟨w.heap.size + 1 + 1, 0, none⟩ = some (.int .i64 0) := (World.cell?_of_block (a := ⟨w.heap.size + 1 + 1, 0, none⟩) (hW'.2.1 (w.heap.size + 1 + 1) (fun hm => by have := (HDs.out _ hm).1; omega))).trans Hre.out.cell
    have hfin : U64s W' (only (w.heap.size + 1 + 1 + 1)) (some ⟨w.heap.size + 1 + 1 + 1, 0, none⟩) n (colsN ms n ms.length) := Hrow.out.keep fun q hq _ => by
      have h1 : q = w.heap.size + 1 + 1 + 1 := hq
      rw [hW'.2.1 q (fun hm => by have := (HDs.out _ hm).1; omega)]
      exact Hset.out q (by omega) (by omega)
    refine ⟨.tuple #[.slice (some ⟨w.heap.size + 1 + 1 + 1, 0, none⟩) n n, .int .i64 0], ?_, .slice (some ⟨w.heap.size + 1 + 1 + 1, 0, none⟩) n n, ?_, ?_, hW'.below Hbw.out (fun D' h => by have := (HDs.out D' h).1; omega)⟩
    · simp [results, Try.f17, go_sem, hcO, hcE]
    · rw [HE.out]
    · rw [turnL_yes HE.out]
      exact ⟨_, n, by rw [colsN_len], hfin.mono (le_old _)⟩
end

end Go.Proofs.Ytjnjlgknmocdlaa
