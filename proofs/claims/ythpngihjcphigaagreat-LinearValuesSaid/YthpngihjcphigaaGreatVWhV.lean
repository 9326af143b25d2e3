/- Words that lie not in a row's own block, or in elder blocks. No conditions. -/
import Derived.Deep.RegionHeld3
import Derived.Test.YthpngihjcphigaaGreatVItvV
import Derived.Test.YthpngihjcphigaaGreatVVecK
import Derived.Test.YthpngihjcphigaaGreatVW5D
import Derived.Test.YthpngihjcphigaaGreatVW5C
import Derived.Test.YthpngihjcphigaaGreatVWhU
import Derived.Test.YthpngihjcphigaaGreatVRefQ
import Derived.Test.YthpngihjcphigaaGreatVW5G
set_option linter.unusedVariables false
set_option linter.unusedSimpArgs false
set_option maxRecDepth 100000
set_option maxHeartbeats 40000000
namespace Go.Proofs.YthpngihjcphigaaGreat
open Go.Lib (hid)
open Go.RowKit
variable {A B : Option Addr} {K M base c d fuel : Nat} {W w w' : World} {Y Z Z1 Z2 : Zone} {cs : List Value} {e t tv u v : TypeId} {held r s : Bool} {l m : List Nat} {p : Iv} {x y z : Int}
structure IvsAt (w : World) (Z : Zone) (A : Option Addr) (c : Nat) (ps : List Iv) : Prop where
 cap : ps.length ≤ c
 max : c ≤ 9223372036854775807
 row : 0 < ps.length → ∃ b o, A = some ⟨b, o, none⟩ ∧ b < w.heap.size ∧
  ∀ j (hj : j < ps.length), ∃ A0 d0 A1 d1, (w.cell? ⟨b, o + j * 6, none⟩ = some (.bool ps[j].n0) ∧ w.cell? ⟨b, o + j * 6 + 1, none⟩ = some (.bool ps[j].s0) ∧ w.cell? ⟨b, o + j * 6 + 2, none⟩ = some (.slice A0 ps[j].l0.length d0) ∧ w.cell? ⟨b, o + j * 6 + 3, none⟩ = some (.bool ps[j].n1) ∧ w.cell? ⟨b, o + j * 6 + 4, none⟩ = some (.bool ps[j].s1) ∧ w.cell? ⟨b, o + j * 6 + 5, none⟩ = some (.slice A1 ps[j].l1.length d1)) ∧ U64s w Z A0 d0 ps[j].l0 ∧ U64s w Z A1 d1 ps[j].l1
def IsIvs (w : World) (Z : Zone) (v : Value) (ps : List Iv) : Prop := ∃ A c, v = .slice A ps.length c ∧ IvsAt w Z A c ps
theorem IvsAt.nil (w : World) (Z : Zone) : IvsAt w Z none 0 [] := ⟨by simp, by omega, fun h => absurd h (by simp)⟩
theorem IvsAt.below {ps : List Iv} (h : IvsAt w Z A c ps) (hb : Below w.heap.size w w') : IvsAt w' Z A c ps := by
 refine ⟨h.cap, h.max, fun h0 => ?_⟩
 obtain ⟨b, o, e, h2, h4⟩ := h.row h0
 refine ⟨b, o, e, Nat.lt_of_lt_of_le h2 hb.size, fun j hj => ?_⟩
 obtain ⟨A0, d0, A1, d1, ⟨c0, c1, c2, c3, c4, c5⟩, u0, u1⟩ := h4 j hj
 exact ⟨A0, d0, A1, d1, ⟨keepC hb c0, keepC hb c1, keepC hb c2, keepC hb c3, keepC hb c4, keepC hb c5⟩, u0.below hb, u1.below hb⟩
theorem IvsAt.mono {ps : List Iv} (h : IvsAt w Z A c ps) (hz : Z.le Y) : IvsAt w Y A c ps := by
 refine ⟨h.cap, h.max, fun h0 => ?_⟩
 obtain ⟨b, o, e, h2, h4⟩ := h.row h0
 refine ⟨b, o, e, h2, fun j hj => ?_⟩
 obtain ⟨A0, d0, A1, d1, hc, u0, u1⟩ := h4 j hj
 exact ⟨A0, d0, A1, d1, hc, u0.mono hz, u1.mono hz⟩
theorem IvsAt.len {ps : List Iv} (h : IvsAt w Z A c ps) : ps.length ≤ 9223372036854775807 := Nat.le_trans h.cap h.max
theorem IvsAt.at {ps : List Iv} (h : IvsAt w Z A c ps) {j : Nat} (hj : j < ps.length) :
  ∃ b o A0 d0 A1 d1, A = some ⟨b, o, none⟩ ∧ b < w.heap.size ∧ (w.cell? ⟨b, o + j * 6, none⟩ = some (.bool ps[j].n0) ∧ w.cell? ⟨b, o + j * 6 + 1, none⟩ = some (.bool ps[j].s0) ∧ w.cell? ⟨b, o + j * 6 + 2, none⟩ = some (.slice A0 ps[j].l0.length d0) ∧ w.cell? ⟨b, o + j * 6 + 3, none⟩ = some (.bool ps[j].n1) ∧ w.cell? ⟨b, o + j * 6 + 4, none⟩ = some (.bool ps[j].s1) ∧ w.cell? ⟨b, o + j * 6 + 5, none⟩ = some (.slice A1 ps[j].l1.length d1)) ∧ U64s w Z A0 d0 ps[j].l0 ∧ U64s w Z A1 d1 ps[j].l1 := by
 obtain ⟨b, o, e, h2, h4⟩ := h.row (by omega)
 obtain ⟨A0, d0, A1, d1, h⟩ := h4 j hj
 exact ⟨b, o, A0, d0, A1, d1, e, h2, h⟩
theorem IvsAt.small {ps : List Iv} (h : IvsAt w Z A c ps) : ∀ p ∈ ps, Small p.l0 ∧ Small p.l1 := fun p hp => by
 obtain ⟨j, hj, rfl⟩ := List.getElem_of_mem hp
 obtain ⟨_, _, _, _, _, _, _, _, _, u0, u1⟩ := h.at hj
 exact ⟨u0.small, u1.small⟩
theorem ok_err : errA p.n0 p.s0 p.l0 p.n1 p.s1 p.l1 = if p.ok = true then 0 else 8 := rfl
theorem lodd_any {A0 A1 : Option Addr} {d0 d1 : Nat} (u0 : U64s w Z A0 d0 p.l0) (u1 : U64s w Y A1 d1 p.l1) (hs : p.short) :
  Calls Tryz.prog 103 #[.agg #[.bool p.n0, .bool p.s0, .slice A0 p.l0.length d0, .bool p.n1, .bool p.s1, .slice A1 p.l1.length d1]] w fun e w' => e = .returned (.bool (!p.ok)) ∧ Below w.heap.size w w' := by
 have hB0 : Below w.heap.size w (w.alloc (.cells #[.bool p.n0, .bool p.s0, .slice A0 p.l0.length d0, .bool p.n1, .bool p.s1, .slice A1 p.l1.length d1] 29)) := (Below.refl _ _).alloc (Nat.le_refl _) _
 obtain ⟨a0, a1, a2, a3, a4, a5, _, _, _, _, _, _, _⟩ := Box6.new w (.bool p.n0) (.bool p.s0) (.slice A0 p.l0.length d0) (.bool p.n1) (.bool p.s1) (.slice A1 p.l1.length d1) 29
 have hck := icheck_any (n0 := p.n0) (s0 := p.s0) (n1 := p.n1) (s1 := p.s1) (u0.below hB0) (u1.below hB0) hs.1 hs.2
 rw [ok_err] at hck
 have HB := hid hB0
 have hok : p.ok = true ∨ p.ok = false := by cases p.ok <;> simp
 have hl0 := u0.len
 have hl1 := u1.len
 clear u0 u1 hs hB0
 generalize p.l0.length = L0 at *
 generalize p.l1.length = L1 at *
 rcases hok with hok | hok
 all_goals
  rw [hok] at hck ⊢
  have Hck := hid hck
  clear hck hok
  go_enter Tryz.func103, Tryz.ntmps103
  go_wp2_with fail
  refine Hck.out.mono ?_
  rintro e w1 ⟨rfl, hc⟩
  have hB1 := from_ HB.out hc
  go_wp2
  go_ret
  exact ⟨by first | rfl | trivial, hB1⟩
theorem lindex_form {ps : List Iv} (ha : IvsAt w Z A c ps) (hs : ∀ p ∈ ps, p.short) :
  Calls Tryz.prog 151 #[.slice A ps.length c, .func (.func 103) #[] #[]] w fun e w' => (∃ r, e = .returned (.int .i64 r) ∧ decide (0 ≤ r) = !(ps.all Iv.ok)) ∧ Below w.heap.size w w' := by
 have hlen := ha.len
 go_enter Tryz.func151, Tryz.ntmps151
 go_wp2
 go_loopw [8] (fun i wr => ∃ k : Nat, k ≤ ps.length ∧ i = .int .i64 k ∧ Below w.heap.size w wr ∧ Hid (∀ j (hj : j < ps.length), j < k → ps[j].ok = true)) (fun i _ => ps.length - (intOf i).toNat)
 case atStart => exact ⟨0, Nat.zero_le _, rfl, Below.refl _ _, fun j hj h => absurd h (by omega)⟩
 case round =>
  obtain ⟨k, hk, rfl, hbel, hz⟩ := hrel
  by_cases hlt : k < ps.length
  · obtain ⟨b, o, A0, d0, A1, d1, rfl, hbb, ⟨c0, c1, c2, c3, c4, c5⟩, u0, u1⟩ := (ha.below hbel).at hlt
    have hck := lodd_any u0 u1 (hs _ (List.getElem_mem hlt))
    have hok : ps[k].ok = true ∨ ps[k].ok = false := by cases ps[k].ok <;> simp
    have Hall : Hid (ps[k].ok = true → ∀ j (hj : j < ps.length), j < k + 1 → ps[j].ok = true) := fun hx j hj hjk => by
     rcases Nat.lt_or_ge j k with h1 | h1
     · exact hz.out j hj h1
     · obtain rfl : j = k := by omega
       exact hx
    have Hnone : Hid (ps[k].ok = false → ps.all Iv.ok = false) := fun hx => by
     cases hall : ps.all Iv.ok
     · rfl
     · have := List.all_eq_true.1 hall ps[k] (List.getElem_mem hlt)
       rw [this] at hx
       cases hx
    clear u0 u1 hz
    generalize ps[k] = p at *
    rcases hok with hok | hok
    all_goals
     rw [hok] at hck
     obtain ⟨Hck, Hok⟩ := hid2 hck hok
     clear hck hok
     go_wp2_with fail
     refine Hck.out.mono ?_
     rintro e w1 ⟨rfl, hb2⟩
     have hb3 := from_ hbel hb2
     go_wp2
    · go_roundw
      case rel => exact ⟨k + 1, by omega, by go_num, hb3, hid (Hall.out Hok.out)⟩
      case measure => simp [intOf]; omega
    · go_ret
      exact ⟨⟨_, rfl, by rw [Hnone.out Hok.out]; exact decide_eq_true (by omega)⟩, hb3⟩
  · obtain rfl : k = ps.length := by omega
    have he : ps.all Iv.ok = true := by
     rw [List.all_eq_true]
     intro p hp
     obtain ⟨j, hj, rfl⟩ := List.getElem_of_mem hp
     exact hz.out j hj hj
    have He := hid he
    clear he hz
    go_wp2
    go_ret
    exact ⟨⟨_, rfl, by rw [He.out]; rfl⟩, hbel⟩
theorem lcontains_form {ps : List Iv} (ha : IvsAt w Z A c ps) (hs : ∀ p ∈ ps, p.short) :
  Calls Tryz.prog 133 #[.slice A ps.length c, .func (.func 103) #[] #[]] w fun e w' => e = .returned (.bool (!(ps.all Iv.ok))) ∧ Below w.heap.size w w' := by
 have Hix := hid (lindex_form ha hs)
 have hlen := ha.len
 clear ha hs
 generalize ps.length = L at *
 generalize (ps.all Iv.ok) = R at *
 go_enter Tryz.func133, Tryz.ntmps133
 go_wp2_with fail
 refine Hix.out.mono ?_
 rintro e w1 ⟨⟨r, rfl, hr⟩, hb1⟩
 go_wp2
 go_ret
 exact ⟨rfl, hb1⟩
theorem lindex_box {ps : List Iv} (ha : IvsAt w Z A c ps) (hs : ∀ p ∈ ps, p.short) :
  Calls Tryz.prog 134 #[.slice A ps.length c, .func (.func 103) #[] #[]] w fun e w' => (∃ r, e = .returned (.int .i64 r) ∧ decide (0 ≤ r) = !(ps.all Iv.ok)) ∧ Below w.heap.size w w' := by
 have hlen := ha.len
 go_enter Tryz.func134, Tryz.ntmps134
 go_wp2
 go_loopw [8] (fun i wr => ∃ k : Nat, k ≤ ps.length ∧ i = .int .i64 k ∧ Below w.heap.size w wr ∧ Hid (∀ j (hj : j < ps.length), j < k → ps[j].ok = true)) (fun i _ => ps.length - (intOf i).toNat)
 case atStart => exact ⟨0, Nat.zero_le _, rfl, Below.refl _ _, fun j hj h => absurd h (by omega)⟩
 case round =>
  obtain ⟨k, hk, rfl, hbel, hz⟩ := hrel
  by_cases hlt : k < ps.length
  · obtain ⟨b, o, A0, d0, A1, d1, rfl, hbb, ⟨c0, c1, c2, c3, c4, c5⟩, u0, u1⟩ := (ha.below hbel).at hlt
    have hck := lodd_any u0 u1 (hs _ (List.getElem_mem hlt))
    have hok : ps[k].ok = true ∨ ps[k].ok = false := by cases ps[k].ok <;> simp
    have Hall : Hid (ps[k].ok = true → ∀ j (hj : j < ps.length), j < k + 1 → ps[j].ok = true) := fun hx j hj hjk => by
     rcases Nat.lt_or_ge j k with h1 | h1
     · exact hz.out j hj h1
     · obtain rfl : j = k := by omega
       exact hx
    have Hnone : Hid (ps[k].ok = false → ps.all Iv.ok = false) := fun hx => by
     cases hall : ps.all Iv.ok
     · rfl
     · have := List.all_eq_true.1 hall ps[k] (List.getElem_mem hlt)
       rw [this] at hx
       cases hx
    clear u0 u1 hz
    generalize ps[k] = p at *
    rcases hok with hok | hok
    all_goals
     rw [hok] at hck
     obtain ⟨Hck, Hok⟩ := hid2 hck hok
     clear hck hok
     go_wp2_with fail
     refine Hck.out.mono ?_
     rintro e w1 ⟨rfl, hb2⟩
     have hb3 := from_ hbel hb2
     go_wp2
    · go_roundw
      case rel => exact ⟨k + 1, by omega, by go_num, hb3, hid (Hall.out Hok.out)⟩
      case measure => simp [intOf]; omega
    · go_ret
      exact ⟨⟨_, rfl, by rw [Hnone.out Hok.out]; exact decide_eq_true (by omega)⟩, hb3⟩
  · obtain rfl : k = ps.length := by omega
    have he : ps.all Iv.ok = true := by
     rw [List.all_eq_true]
     intro p hp
     obtain ⟨j, hj, rfl⟩ := List.getElem_of_mem hp
     exact hz.out j hj hj
    have He := hid he
    clear he hz
    go_wp2
    go_ret
    exact ⟨⟨_, rfl, by rw [He.out]; rfl⟩, hbel⟩
theorem lcontains_box {ps : List Iv} (ha : IvsAt w Z A c ps) (hs : ∀ p ∈ ps, p.short) :
  Calls Tryz.prog 102 #[.slice A ps.length c, .func (.func 103) #[] #[]] w fun e w' => e = .returned (.bool (!(ps.all Iv.ok))) ∧ Below w.heap.size w w' := by
 have Hix := hid (lindex_box ha hs)
 have hlen := ha.len
 clear ha hs
 generalize ps.length = L at *
 generalize (ps.all Iv.ok) = R at *
 go_enter Tryz.func102, Tryz.ntmps102
 go_wp2_with fail
 refine Hix.out.mono ?_
 rintro e w1 ⟨⟨r, rfl, hr⟩, hb1⟩
 go_wp2
 go_ret
 exact ⟨rfl, hb1⟩
def errF (ps : List Iv) : Int := if (1 ≤ ps.length ∧ ps.length ≤ 64) ∧ ps.all Iv.ok = true then 0 else 8
def errFB (ps qs : List Iv) : Int := if errF ps = 0 ∧ qs.all Iv.ok = true then (if qs.length + 1 = ps.length then 0 else 70) else 8
theorem errF_vals (ps : List Iv) : errF ps = 0 ∨ errF ps = 8 := by unfold errF; split <;> simp
theorem lcheck_any {ps : List Iv} (ha : IvsAt w Z A c ps) (hs : ∀ p ∈ ps, p.short) :
  Calls Tryz.prog 101 #[.slice A ps.length c] w fun e w' => e = .returned (.int .i64 (errF ps)) ∧ Below w.heap.size w w' := by
 have hc := lcontains_form ha hs
 have hlen := ha.len
 by_cases h1 : ps.length < 1
 · have e : errF ps = 8 := by unfold errF; rw [if_neg (by omega)]
   rw [e]
   have t1 : decide ((ps.length : Int) < 1) = true := decide_eq_true (by omega)
   have t2 : ps.length = 0 := by omega
   rw [t2] at t1 ⊢
   clear hc ha hs e h1 hlen t2
   go_enter Tryz.func101, Tryz.ntmps101
   go_wp2
   go_ret
   exact ⟨rfl, Below.refl _ _⟩
 · have t1 : decide ((ps.length : Int) < 1) = false := decide_eq_false (by omega)
   by_cases h2 : 64 < ps.length
   · have e : errF ps = 8 := by unfold errF; rw [if_neg (by omega)]
     rw [e]
     have t2 : decide ((64 : Int) < (ps.length : Int)) = true := decide_eq_true (by omega)
     have t3 : decide (64 < ps.length) = true := decide_eq_true h2
     clear hc ha hs e
     generalize ps.length = L at *
     go_enter Tryz.func101, Tryz.ntmps101
     go_wp2
     go_ret
     exact ⟨rfl, Below.refl _ _⟩
   · have t2 : decide ((64 : Int) < (ps.length : Int)) = false := decide_eq_false (by omega)
     have t3 : decide (64 < ps.length) = false := decide_eq_false h2
     have hok : ps.all Iv.ok = true ∨ ps.all Iv.ok = false := by cases ps.all Iv.ok <;> simp
     rcases hok with hok | hok
     · have e : errF ps = 0 := by unfold errF; rw [if_pos ⟨by omega, hok⟩]
       rw [e]
       rw [hok] at hc
       have Hc := hid hc
       clear hc ha hs e hok
       generalize ps.length = L at *
       go_enter Tryz.func101, Tryz.ntmps101
       go_wp2_with fail
       refine Hc.out.mono ?_
       rintro e w1 ⟨rfl, hb⟩
       go_wp2
       go_ret
       exact ⟨rfl, hb⟩
     · have e : errF ps = 8 := by unfold errF; rw [if_neg (by rw [hok]; simp)]
       rw [e]
       rw [hok] at hc
       have Hc := hid hc
       clear hc ha hs e hok
       generalize ps.length = L at *
       go_enter Tryz.func101, Tryz.ntmps101
       go_wp2_with fail
       refine Hc.out.mono ?_
       rintro e w1 ⟨rfl, hb⟩
       go_wp2
       go_ret
       exact ⟨rfl, hb⟩
theorem lchecked_any {ps qs : List Iv} (ha : IvsAt w Z A c ps) (hb : IvsAt w Y B d qs) (hs : ∀ p ∈ ps, p.short) (hs2 : ∀ p ∈ qs, p.short) :
  Calls Tryz.prog 56 #[.slice A ps.length c, .slice B qs.length d] w fun e w' => e = .returned (.int .i64 (errFB ps qs)) ∧ Below w.heap.size w w' := by
 have hck := lcheck_any ha hs
 have hlen := ha.len
 have hlen2 := hb.len
 rcases errF_vals ps with h1 | h1
 · rw [h1] at hck
   have hcn : Hid (∀ W, Below w.heap.size w W → Calls Tryz.prog 102 #[.slice B qs.length d, .func (.func 103) #[] #[]] W fun e w' => e = .returned (.bool (!(qs.all Iv.ok))) ∧ Below W.heap.size W w') := fun W g => lcontains_box (hb.below g) hs2
   have hp0 : 1 ≤ ps.length := by
    unfold errF at h1
    split at h1
    · rename_i h; exact h.1.1
    · cases h1
   have hok : qs.all Iv.ok = true ∨ qs.all Iv.ok = false := by cases qs.all Iv.ok <;> simp
   have hw : IntKind.i64.wrap ((ps.length : Int) - 1) = ((ps.length - 1 : Nat) : Int) := by rw [IntKind.wrap_i64]; omega
   rcases hok with hok | hok
   · rw [hok] at hcn
     by_cases h2 : qs.length + 1 = ps.length
     · have e : errFB ps qs = 0 := by unfold errFB; rw [if_pos ⟨h1, hok⟩, if_pos h2]
       rw [e]
       have e2 : ps.length - 1 = qs.length := by omega
       rw [e2] at hw
       have t1 : ((qs.length : Int) != (qs.length : Int)) = false := bne_self_eq_false _
       have Hck := hid hck
       clear hck ha hb hs hs2 e h1 hok h2 e2
       generalize ps.length = L at *
       generalize qs.length = M at *
       go_enter Tryz.func56, Tryz.ntmps56
       go_wp2_with fail
       refine Hck.out.mono ?_
       rintro e w1 ⟨rfl, hc⟩
       go_wp2_with fail
       refine (hcn.out _ hc).mono ?_
       rintro e w2 ⟨rfl, hc2⟩
       have hB := from_ hc hc2
       go_wp2
       go_ret
       exact ⟨rfl, hB⟩
     · have e : errFB ps qs = 70 := by unfold errFB; rw [if_pos ⟨h1, hok⟩, if_neg h2]
       rw [e]
       have t1 : ((qs.length : Int) != ((ps.length - 1 : Nat) : Int)) = true := bne_iff_ne.2 (by omega)
       have Hck := hid hck
       clear hck ha hb hs hs2 e h1 hok h2
       obtain ⟨K, hK⟩ : ∃ K, K = ps.length - 1 := ⟨_, rfl⟩
       rw [← hK] at hw t1
       clear hK
       generalize ps.length = L at *
       generalize qs.length = M at *
       go_enter Tryz.func56, Tryz.ntmps56
       go_wp2_with fail
       refine Hck.out.mono ?_
       rintro e w1 ⟨rfl, hc⟩
       go_wp2_with fail
       refine (hcn.out _ hc).mono ?_
       rintro e w2 ⟨rfl, hc2⟩
       have hB := from_ hc hc2
       go_wp2
       go_ret
       exact ⟨rfl, hB⟩
   · have e : errFB ps qs = 8 := by unfold errFB; rw [if_neg (by rw [hok]; simp)]
     rw [e]
     rw [hok] at hcn
     have Hck := hid hck
     clear hck ha hb hs hs2 e h1 hok hw
     generalize ps.length = L at *
     generalize qs.length = M at *
     go_enter Tryz.func56, Tryz.ntmps56
     go_wp2_with fail
     refine Hck.out.mono ?_
     rintro e w1 ⟨rfl, hc⟩
     go_wp2_with fail
     refine (hcn.out _ hc).mono ?_
     rintro e w2 ⟨rfl, hc2⟩
     have hB := from_ hc hc2
     go_wp2
     go_ret
     exact ⟨rfl, hB⟩
 · have e : errFB ps qs = 8 := by unfold errFB; rw [if_neg (by rw [h1]; simp)]
   rw [e]
   rw [h1] at hck
   have Hck := hid hck
   clear hck ha hb hs hs2 e h1
   generalize ps.length = L at *
   generalize qs.length = M at *
   go_enter Tryz.func56, Tryz.ntmps56
   go_wp2_with fail
   refine Hck.out.mono ?_
   rintro e w1 ⟨rfl, hc⟩
   go_wp2
   go_ret
   exact ⟨rfl, hc⟩
open Go.ChangeShapes Go.WideShapes Go.ChangeAt Go.RowKit
structure ItvT (P : Program) (t u v e : TypeId) (fs gs : Array Field) (f0 f1 g0 g1 : Field) : Prop where
 ht : P.underlying t = some (.struct fs)
 hn : P.cellsOf t = 6
 h0 : fs[0]? = some f0
 h1 : fs[1]? = some f1
 o0 : f0.offset = 0
 o1 : f1.offset = 3
 t0 : f0.type = u
 t1 : f1.type = u
 hu : P.underlying u = some (.struct gs)
 hm : P.cellsOf u = 3
 k0 : gs[0]? = some g0
 k1 : gs[1]? = some g1
 q0 : g0.offset = 0
 q1 : g1.offset = 1
 r0 : P.cellsOf g0.type = 1
 r1 : g1.type = v
 hb : P.underlying g0.type = some .bool
theorem some_at {α : Type} {xs : List α} {k n : Nat} (h : xs.length = n) (hk : k < n) : ∃ y, xs[k]? = some y := ⟨xs[k], List.getElem?_eq_getElem (by omega)⟩
theorem lt_of_at {fs : Array Field} {k : Nat} {f : Field} (h : fs[k]? = some f) : k < fs.size := by
 rcases Nat.lt_or_ge k fs.size with h1 | h1
 · exact h1
 · rw [Array.getElem?_eq_none (by omega)] at h; cases h
theorem open_boundC {H : Type} {enc : TypeId × Value → H} {P : Program} {fs gs ws : Array Field} {f0 f1 g0 g1 w0 w1 : Field} {x : DataW H × List MemPlace}
  (I : ItvT P t u v e fs gs f0 f1 g0 g1) (T : WholeT P v ws w0 w1 e) (hf : DataW.trod enc P W base (fun _ => true) held fuel u cs = some x) :
  ∃ n s B d l, cs = [.bool n, .bool s, .slice B (l : List Nat).length d] ∧ U64s W old B d l := by
 obtain ⟨xs, n, _, _, hl, hlen, hfs⟩ := DataW.trod_struct I.hu hf
 rw [I.hm] at hl
 have e0 := hfs 0 g0 I.k0
 have e1 := hfs 1 g1 I.k1
 obtain ⟨a, b, c, rfl⟩ : ∃ a b c, cs = [a, b, c] := by
  match cs, hl with
  | [a, b, c], _ => exact ⟨a, b, c, rfl⟩
 rw [I.q0, I.r0] at e0
 rw [I.q1, I.r1, T.hn] at e1
 simp at e0 e1
 obtain ⟨y0, z0⟩ := some_at hlen (lt_of_at I.k0)
 obtain ⟨y1, z1⟩ := some_at hlen (lt_of_at I.k1)
 rw [z0] at e0
 rw [z1] at e1
 obtain ⟨s, hs0, _⟩ := DataW.trod_bool I.hb e0
 obtain ⟨s1, v1, l, h1, B, d, rfl, hu⟩ := open_wholeC T e1
 injection hs0 with hs0 _
 injection h1 with h1 h2
 injection h2 with h2 _
 subst hs0 h1 h2
 exact ⟨_, _, _, _, _, rfl, hu⟩
theorem open_itvC {H : Type} {enc : TypeId × Value → H} {P : Program} {fs gs ws : Array Field} {f0 f1 g0 g1 w0 w1 : Field} {x : DataW H × List MemPlace}
  (I : ItvT P t u v e fs gs f0 f1 g0 g1) (T : WholeT P v ws w0 w1 e) (hf : DataW.trod enc P W base (fun _ => true) held fuel t cs = some x) :
  ∃ (p : Iv) (A : Option Addr) (a : Nat) (B : Option Addr) (b : Nat), cs = [.bool p.n0, .bool p.s0, .slice A p.l0.length a, .bool p.n1, .bool p.s1, .slice B p.l1.length b] ∧ U64s W old A a p.l0 ∧ U64s W old B b p.l1 := by
 obtain ⟨xs, n, _, _, hl, hlen, hfs⟩ := DataW.trod_struct I.ht hf
 rw [I.hn] at hl
 have e0 := hfs 0 f0 I.h0
 have e1 := hfs 1 f1 I.h1
 obtain ⟨a0, a1, a2, a3, a4, a5, rfl⟩ : ∃ a0 a1 a2 a3 a4 a5, cs = [a0, a1, a2, a3, a4, a5] := by
  match cs, hl with
  | [a0, a1, a2, a3, a4, a5], _ => exact ⟨a0, a1, a2, a3, a4, a5, rfl⟩
 rw [I.o0, I.t0, I.hm] at e0
 rw [I.o1, I.t1, I.hm] at e1
 simp at e0 e1
 obtain ⟨y0, z0⟩ := some_at hlen (lt_of_at I.h0)
 obtain ⟨y1, z1⟩ := some_at hlen (lt_of_at I.h1)
 rw [z0] at e0
 rw [z1] at e1
 obtain ⟨n0, s0, A, a, l0, h1, u1⟩ := open_boundC I T e0
 obtain ⟨n1, s1, B, b, l1, h2, u2⟩ := open_boundC I T e1
 injection h1 with h1 h3
 injection h3 with h3 h4
 injection h4 with h4 _
 injection h2 with h2 h5
 injection h5 with h5 h6
 injection h6 with h6 _
 subst h1 h2 h3 h4 h5 h6
 exact ⟨⟨n0, s0, l0, n1, s1, l1⟩, A, a, B, b, rfl, u1, u2⟩
theorem open_itvsC {H : Type} {enc : TypeId × Value → H} {P : Program} {fs gs ws : Array Field} {f0 f1 g0 g1 w0 w1 : Field} {x : DataW H × List MemPlace}
  (hv : P.underlying tv = some (.slice t)) (I : ItvT P t u v e fs gs f0 f1 g0 g1) (T : WholeT P v ws w0 w1 e) (hf : DataW.trod enc P W base (fun _ => true) held fuel tv cs = some x) :
  ∃ v ps, cs = [v] ∧ IsIvs W old v ps := by
 rcases DataW.trod_slice hv hf with ⟨hcs, _⟩ | ⟨a, len, cap, elems, rest, n, _, rfl, rfl, hb, hl, hm, hlen, hel, _, _⟩
 · exact ⟨_, [], hcs, none, 0, rfl, IvsAt.nil _ _⟩
 by_cases h0 : len = 0
 · subst h0
   exact ⟨_, [], rfl, some a, cap, rfl, by simp, by simpa [maxLen] using hm, fun h => absurd h (by simp)⟩
 have hcell : ∀ j, j < len → ∃ (p : Iv) (A : Option Addr) (c : Nat) (B : Option Addr) (d : Nat), (W.cell? ((a.add (j * 6)).add 0) = some (.bool p.n0) ∧ W.cell? ((a.add (j * 6)).add 1) = some (.bool p.s0) ∧ W.cell? ((a.add (j * 6)).add 2) = some (.slice A p.l0.length c) ∧ W.cell? ((a.add (j * 6)).add 3) = some (.bool p.n1) ∧ W.cell? ((a.add (j * 6)).add 4) = some (.bool p.s1) ∧ W.cell? ((a.add (j * 6)).add 5) = some (.slice B p.l1.length d)) ∧ U64s W old A c p.l0 ∧ U64s W old B d p.l1 := by
  intro j hjl
  have h1 := hel j hjl
  have hy : elems[j]? = some (elems[j]'(by omega)) := List.getElem?_eq_getElem (by omega)
  rw [hy, Option.bind_eq_some_iff] at h1
  obtain ⟨cs', hcs, ht⟩ := h1
  obtain ⟨p, A, c, B, d, rfl, u1, u2⟩ := open_itvC I T ht
  rw [I.hn] at hcs
  obtain ⟨_, _, hc⟩ := World.cells?_some hcs
  exact ⟨p, A, c, B, d, ⟨hc 0 (by omega), hc 1 (by omega), hc 2 (by omega), hc 3 (by omega), hc 4 (by omega), hc 5 (by omega)⟩, u1, u2⟩
 have hspot : a.spot = none := by
  obtain ⟨p, A, c, B, d, ⟨h1, _⟩, _⟩ := hcell 0 (by omega)
  simpa [Addr.add] using World.cell?_spot h1
 obtain ⟨b, o, spot⟩ := a
 simp only at hspot
 subst hspot
 obtain ⟨ps, hpl, hps⟩ := list_of_each (R := fun j (p : Iv) => ∃ A0 d0 A1 d1, (W.cell? ⟨b, o + j * 6, none⟩ = some (.bool p.n0) ∧ W.cell? ⟨b, o + j * 6 + 1, none⟩ = some (.bool p.s0) ∧ W.cell? ⟨b, o + j * 6 + 2, none⟩ = some (.slice A0 p.l0.length d0) ∧ W.cell? ⟨b, o + j * 6 + 3, none⟩ = some (.bool p.n1) ∧ W.cell? ⟨b, o + j * 6 + 4, none⟩ = some (.bool p.s1) ∧ W.cell? ⟨b, o + j * 6 + 5, none⟩ = some (.slice A1 p.l1.length d1)) ∧ U64s W old A0 d0 p.l0 ∧ U64s W old A1 d1 p.l1) len (fun j hj => by
  obtain ⟨p, A, c, B, d, ⟨h1, h2, h3, h4, h5, h6⟩, u1, u2⟩ := hcell j hj
  simp only [Addr.add_lit] at h1 h2 h3 h4 h5 h6
  exact ⟨p, A, c, B, d, ⟨h1, h2, h3, h4, h5, h6⟩, u1, u2⟩)
 have hbl : b < W.heap.size := by
  obtain ⟨_, _, _, _, ⟨h1, _⟩, _⟩ := hps 0 (by omega)
  exact lt_of_cell h1
 exact ⟨_, ps, rfl, some ⟨b, o, none⟩, cap, by rw [hpl], by omega, by simpa [maxLen] using hm, fun _ => ⟨b, o, rfl, hbl, hps⟩⟩
theorem open_itvs {H : Type} {enc : TypeId × Value → H} {P : Program} {b0 : Nat} {r : Reach} {fs gs ws : Array Field} {f0 f1 g0 g1 w0 w1 : Field} {x : Value} {d : DataW H} {p : List MemPlace}
  (hv : P.underlying tv = some (.slice t)) (I : ItvT P t u v e fs gs f0 f1 g0 g1) (T : WholeT P v ws w0 w1 e) (hw : Value.okWide P W r b0 tv x) (h : DataW.Trod enc P W base (fun _ => true) held tv x d p) : ∃ ps, IsIvs W old x ps := by
 obtain ⟨a, len, cap, rfl⟩ := okWide_slice hv hw
 obtain ⟨fuel, hf⟩ := h
 obtain ⟨v', ps, e1, h1⟩ := open_itvsC hv I T hf
 simp [Value.cells] at e1
 subst e1
 exact ⟨ps, h1⟩
theorem itvT_ : ∃ fs gs f0 f1 g0 g1, ItvT Tryz.prog 29 27 25 95 fs gs f0 f1 g0 g1 :=
 ⟨_, _, _, _, _, _, ⟨Tryz.underlying29, by kernel_rfl, rfl, rfl, rfl, rfl, rfl, rfl, Tryz.underlying27, by kernel_rfl, rfl, rfl, rfl, rfl, by kernel_rfl, rfl, Tryz.underlying4⟩⟩
def greatI (p : Iv) (K : Nat) : Bool := decide (K < p.l0.length) || decide (K < p.l1.length)
def greatF (ps : List Iv) (M K : Nat) : Bool := decide (M < ps.length) || ps.any fun p => greatI p K
theorem greatF_no {ps : List Iv} (h : greatF ps M K = false) : ps.length ≤ M ∧ ∀ p ∈ ps, p.l0.length ≤ K ∧ p.l1.length ≤ K := by
 unfold greatF at h
 rw [Bool.or_eq_false_iff] at h
 refine ⟨by have := of_decide_eq_false h.1; omega, fun p hp => ?_⟩
 have h1 : greatI p K = false := by
  cases hx : greatI p K
  · rfl
  · have : (ps.any fun p => greatI p K) = true := List.any_eq_true.2 ⟨p, hp, hx⟩
    rw [this] at h
    cases h.2
 unfold greatI at h1
 rw [Bool.or_eq_false_iff] at h1
 have h2 := of_decide_eq_false h1.1
 have h3 := of_decide_eq_false h1.2
 omega
theorem great16_any {n0 s0 n1 s1 : Bool} {L0 L1 : Nat} {a b : Nat} (hK : K ≤ 1000) (h0 : L0 ≤ 9223372036854775807) (h1 : L1 ≤ 9223372036854775807) :
  Calls Tryz.prog 5 #[.agg #[.bool n0, .bool s0, .slice A L0 a, .bool n1, .bool s1, .slice B L1 b], .int .i64 (K : Int)] w fun e w' => e = .returned (.bool (decide (K < L0) || decide (K < L1))) ∧ Below w.heap.size w w' := by
 have hB : Below w.heap.size w (w.alloc (.cells #[.bool n0, .bool s0, .slice A L0 a, .bool n1, .bool s1, .slice B L1 b] 29)) := (Below.refl _ w).alloc (Nat.le_refl _) _
 obtain ⟨b0, b1, b2, b3, b4, b5, _⟩ := Box6.new w (.bool n0) (.bool s0) (.slice A L0 a) (.bool n1) (.bool s1) (.slice B L1 b) 29
 rcases (by omega : K < L0 ∨ ¬ (K < L0)) with g0 | g0
 · have d1 : decide ((K : Int) < (L0 : Int)) = true := decide_eq_true (by omega)
   have e1 : decide (K < L0) = true := decide_eq_true g0
   rw [e1, Bool.true_or]
   clear g0
   go_enter Tryz.func5, Tryz.ntmps5
   go_wp2
   go_ret
   exact ⟨rfl, hB⟩
 · have d1 : decide ((K : Int) < (L0 : Int)) = false := decide_eq_false (by omega)
   have e1 : decide (K < L0) = false := decide_eq_false g0
   rw [e1, Bool.false_or]
   clear g0
   go_enter Tryz.func5, Tryz.ntmps5
   go_wp2
   go_ret
   exact ⟨by simp, hB⟩
theorem great17_any {ps : List Iv} (ha : IvsAt w Z A c ps) (hM : M ≤ 1000) (hK : K ≤ 1000) :
  Calls Tryz.prog 19 #[.slice A ps.length c, .int .i64 (M : Int), .int .i64 (K : Int)] w fun e w' => e = .returned (.bool (greatF ps M K)) ∧ Below w.heap.size w w' := by
 have hl := ha.len
 by_cases hlM : M < ps.length
 · have hd : decide ((M : Int) < (ps.length : Int)) = true := decide_eq_true (by omega)
   have hd2 : decide (M < ps.length) = true := decide_eq_true hlM
   have hg : greatF ps M K = true := by unfold greatF; rw [hd2, Bool.true_or]
   rw [hg]
   clear ha hg
   generalize ps.length = L at *
   go_enter Tryz.func19, Tryz.ntmps19
   go_wp2
   go_ret
   exact ⟨rfl, Below.refl _ _⟩
 · have hd : decide ((M : Int) < (ps.length : Int)) = false := decide_eq_false (by omega)
   have hd2 : decide (M < ps.length) = false := decide_eq_false hlM
   have hg : greatF ps M K = ps.any fun p => greatI p K := by unfold greatF; rw [hd2, Bool.false_or]
   rw [hg]
   clear hg
   go_enter Tryz.func19, Tryz.ntmps19
   go_wp2
   go_loopw [7] (fun i wr => ∃ k : Nat, k ≤ ps.length ∧ i = .int .i64 k ∧ Below w.heap.size w wr ∧ Hid (∀ j (hj : j < ps.length), j < k → greatI ps[j] K = false)) (fun i _ => ps.length - (intOf i).toNat)
   case atStart => exact ⟨0, Nat.zero_le _, rfl, Below.refl _ _, fun j hj h => absurd h (by omega)⟩
   case round =>
    obtain ⟨k, hk, rfl, hbel, hz⟩ := hrel
    by_cases hlt : k < ps.length
    · obtain ⟨b, o, A0, d0, A1, d1, rfl, hbb, ⟨c0, c1, c2, c3, c4, c5⟩, u0, u1⟩ := (ha.below hbel).at hlt
      have hck := great16_any (w := wr) (n0 := ps[k].n0) (s0 := ps[k].s0) (n1 := ps[k].n1) (s1 := ps[k].s1) (L0 := ps[k].l0.length) (L1 := ps[k].l1.length) (A := A0) (B := A1) (a := d0) (b := d1) hK u0.len u1.len
      have hck' : Calls Tryz.prog 5 #[.agg #[.bool ps[k].n0, .bool ps[k].s0, .slice A0 ps[k].l0.length d0, .bool ps[k].n1, .bool ps[k].s1, .slice A1 ps[k].l1.length d1], .int .i64 (K : Int)] wr fun e w' => e = .returned (.bool (greatI ps[k] K)) ∧ Below wr.heap.size wr w' := hck
      have hok : greatI ps[k] K = true ∨ greatI ps[k] K = false := by cases greatI ps[k] K <;> simp
      have Hall : Hid (greatI ps[k] K = false → ∀ j (hj : j < ps.length), j < k + 1 → greatI ps[j] K = false) := fun hx j hj hjk => by
       rcases Nat.lt_or_ge j k with h1 | h1
       · exact hz.out j hj h1
       · obtain rfl : j = k := by omega
         exact hx
      have Hnone : Hid (greatI ps[k] K = true → (ps.any fun p => greatI p K) = true) := fun hx => List.any_eq_true.2 ⟨ps[k], List.getElem_mem hlt, hx⟩
      clear u0 u1 hz hck
      generalize ps[k] = p at *
      rcases hok with hok | hok
      all_goals
       rw [hok] at hck'
       obtain ⟨Hck, Hok⟩ := hid2 hck' hok
       clear hck' hok
       go_wp2_with fail
       refine Hck.out.mono ?_
       rintro e w1 ⟨rfl, hb2⟩
       have hb3 := from_ hbel hb2
       go_wp2
      · go_ret
        rw [Hnone.out Hok.out]
        exact ⟨rfl, hb3⟩
      · go_roundw
        case rel => exact ⟨k + 1, by omega, by go_num, hb3, hid (Hall.out Hok.out)⟩
        case measure => simp [intOf]; omega
    · obtain rfl : k = ps.length := by omega
      have he : (ps.any fun p => greatI p K) = false := by
       cases hx : (ps.any fun p => greatI p K)
       · rfl
       · obtain ⟨p, hp, hq⟩ := List.any_eq_true.1 hx
         obtain ⟨j, hj, rfl⟩ := List.getElem_of_mem hp
         rw [hz.out j hj hj] at hq
         cases hq
      have He := hid he
      clear he hz
      go_wp2
      go_ret
      rw [He.out]
      exact ⟨rfl, hbel⟩
theorem Nm.enc (h : Nm x s l) : okI s l = true ∧ zof s l = x := by
 obtain ⟨rfl, rfl⟩ := h
 refine ⟨?_, zof_z x⟩
 unfold okI
 rw [good_limbs]
 by_cases hx : x < 0
 · have : 0 < (limbs x.natAbs).length := len_pos.2 (by omega)
   simp [hx]
   intro h2
   rw [h2] at this
   simp at this
 · simp [hx]
theorem r5times_n {t : Bool} {k : List Nat} (h1 : Nm x s l) (h2 : Nm y t k) (h3 : Nm z r m) (hz : x * y = z) (hl : l.length ≤ 90000000000) (hl2 : k.length ≤ 90000000000) (u1 : U64s w Z1 A c l) (u2 : U64s w Z2 B d k) :
  Calls Tryz.prog 98 #[.agg #[.bool s, .slice A l.length c], .agg #[.bool t, .slice B k.length d]] w fun e w' => ∃ Av cv, e = .returned (.agg #[.bool r, .slice Av m.length cv]) ∧ U64s w' (new w.heap.size) Av cv m ∧ Below w.heap.size w w' := by
 refine (r5times_good (s := s) (l := l) (t := t) (k := k) ⟨_, rfl, A, c, rfl, u1⟩ ⟨_, rfl, B, d, rfl, u2⟩ h1.enc.1 h2.enc.1 hl hl2).mono ?_
 rintro e w' ⟨v, rfl, hv, hb⟩
 rw [h1.enc.2, h2.enc.2, hz] at hv
 obtain ⟨Av, cv, rfl, hu⟩ := h3.of hv
 exact ⟨Av, cv, rfl, hu, hb⟩
theorem r5sum_n {t : Bool} {k : List Nat} (h1 : Nm x s l) (h2 : Nm y t k) (h3 : Nm z r m) (hz : x + y = z) (hl : l.length ≤ 10000000000) (hl2 : k.length ≤ 10000000000) (u1 : U64s w Z1 A c l) (u2 : U64s w Z2 B d k) :
  Calls Tryz.prog 90 #[.agg #[.bool s, .slice A l.length c], .agg #[.bool t, .slice B k.length d]] w fun e w' => ∃ Av cv, e = .returned (.agg #[.bool r, .slice Av m.length cv]) ∧ U64s w' (new w.heap.size) Av cv m ∧ Below w.heap.size w w' := by
 refine (r5sum_good (h1.isZ u1) (h2.isZ u2) (by rw [← h1.len]; exact hl) (by rw [← h2.len]; exact hl2)).mono ?_
 rintro e w' ⟨v, rfl, hv, hb⟩
 rw [hz] at hv
 obtain ⟨Av, cv, rfl, hu⟩ := h3.of hv
 exact ⟨Av, cv, rfl, hu, hb⟩
def notOwn (v : Value) : Zone := ⟨fun b => v.ownBlock ≠ some b, False⟩
theorem U64s.growO {v v' : Value} (h : U64s w (notOwn v) A c l) (hg : w.grownBy w' v.ownBlock) (hf : Fresh w v v') : U64s w' (notOwn v') A c l := by
 have h1 := h.keep (w' := w') fun b hb hl => hg.block b hl (fun e => hb e.symm)
 refine ⟨h1.small, h1.cap, h1.max, h1.nul, fun h0 => ?_⟩
 obtain ⟨b, o, e, hb, hfz, hc⟩ := h1.row h0
 obtain ⟨b2, o2, e2, hb2, _, hc2⟩ := h.row h0
 rw [e] at e2
 injection e2 with e2
 injection e2 with e3 e4
 subst e3 e4
 have hlt := lt_of_cell (hc2 0 _ (List.getElem?_eq_getElem h0))
 refine ⟨b, o, e, fun e5 => ?_, fun h => h.elim, hc⟩
 rcases hf with h3 | h3
 · exact hb (h3.symm.trans e5)
 · have h4 := h3 b e5
   have h5 : b < w.heap.size := hlt
   omega
theorem down_case (hy : y ≠ 0) :
  (decide (x < 0) = decide (y < 0) ∧ rq x y true = ((x.natAbs / y.natAbs : Nat) : Int)) ∨
  (decide (x < 0) ≠ decide (y < 0) ∧ x.natAbs % y.natAbs = 0 ∧ rq x y true = -((x.natAbs / y.natAbs : Nat) : Int)) ∨
  (decide (x < 0) ≠ decide (y < 0) ∧ x.natAbs % y.natAbs ≠ 0 ∧ rq x y true = -((x.natAbs / y.natAbs + 1 : Nat) : Int)) := by
 by_cases hs : decide (x < 0) = decide (y < 0)
 · left
   refine ⟨hs, ?_⟩
   unfold rq tq
   rw [hs]
   simp
 · right
   have hb : (decide (x < 0) != decide (y < 0)) = true := by simpa using hs
   by_cases h0 : x.natAbs % y.natAbs = 0
   · left
     refine ⟨hs, h0, ?_⟩
     have hz : decide (0 < (limbs (x.natAbs % y.natAbs)).length) = false := decide_eq_false (by rw [len_pos]; omega)
     unfold rq tq
     rw [hz, if_neg hs]
     simp
   · right
     refine ⟨hs, h0, ?_⟩
     have hz : decide (0 < (limbs (x.natAbs % y.natAbs)).length) = true := decide_eq_true (by rw [len_pos]; omega)
     unfold rq tq
     rw [hz, hb, if_neg hs]
     simp
     omega
theorem nm_nat (n : Nat) : Nm (n : Int) false (limbs n) := ⟨(decide_eq_false (by omega)).symm, by rw [Int.natAbs_natCast]⟩
theorem nm_minus (n : Nat) : Nm (-(n : Int)) (decide (0 < (limbs n).length)) (limbs n) := by
 refine ⟨?_, by rw [Int.natAbs_neg, Int.natAbs_natCast]⟩
 rw [decide_eq_decide, len_pos]
 omega
theorem Nm.isN (h : Nm x s l) (hu : U64s w Z A c l) : IsN w Z (.slice A l.length c) x.natAbs := by
 obtain ⟨rfl, rfl⟩ := h
 exact ⟨A, c, rfl, hu⟩
theorem Nm.uniq {t : Bool} {k : List Nat} (h : Nm x s l) (h' : Nm x t k) : s = t ∧ l = k := ⟨h.1.trans h'.1.symm, h.2.trans h'.2.symm⟩
theorem r5down_n {t : Bool} {k : List Nat} (h1 : Nm x s l) (h2 : Nm y t k) (h3 : Nm z r m) (hz : rq x y true = z) (hy : y ≠ 0) (hl : l.length ≤ 9000) (hl2 : k.length ≤ 9000) (u1 : U64s w Z1 A c l) (u2 : U64s w Z2 B d k) :
  Calls Tryz.prog 99 #[.agg #[.bool s, .slice A l.length c], .agg #[.bool t, .slice B k.length d]] w fun e w' => ∃ Av cv, e = .returned (.agg #[.bool r, .slice Av m.length cv]) ∧ U64s w' (new w.heap.size) Av cv m ∧ Below w.heap.size w w' := by
 obtain ⟨bA, bB, bR, hB0⟩ := boxes3 w (.bool s) (.slice A l.length c) (.bool t) (.slice B k.length d) (.bool false) (.slice none 0 0) 25
 have na := h1.isN (u1.below hB0)
 have nb := h2.isN (u2.below hB0)
 have la := h1.len
 have lb := h2.len
 have hov := over_good na nb (by omega) (by omega) (by omega)
 have hq1 : (limbs (x.natAbs / y.natAbs)).length ≤ 9000 := Nat.le_trans (len_mono (Nat.div_le_self _ _)) (by omega)
 have hcase := down_case (x := x) hy
 rw [hz, ← h1.1, ← h2.1] at hcase
 have hways : (s = t ∧ r = false ∧ m = limbs (x.natAbs / y.natAbs)) ∨
   (((s = true ∧ t = false) ∨ (s = false ∧ t = true)) ∧ x.natAbs % y.natAbs = 0 ∧ r = decide (0 < (limbs (x.natAbs / y.natAbs)).length) ∧ m = limbs (x.natAbs / y.natAbs)) ∨
   (((s = true ∧ t = false) ∨ (s = false ∧ t = true)) ∧ x.natAbs % y.natAbs ≠ 0 ∧ r = true ∧ m = limbs (x.natAbs / y.natAbs + 1)) := by
  have hne : s ≠ t → (s = true ∧ t = false) ∨ (s = false ∧ t = true) := by cases s <;> cases t <;> simp
  rcases hcase with ⟨e, h⟩ | ⟨e, h0, h⟩ | ⟨e, h0, h⟩
  · rw [h] at h3
    obtain ⟨g1, g2⟩ := h3.uniq (nm_nat _)
    exact .inl ⟨e, g1, g2⟩
  · rw [h] at h3
    obtain ⟨g1, g2⟩ := h3.uniq (nm_minus _)
    exact .inr (.inl ⟨hne e, h0, g1, g2⟩)
  · rw [h] at h3
    obtain ⟨g1, g2⟩ := h3.uniq (nm_minus _)
    rw [decide_eq_true (len_pos.2 (Nat.succ_ne_zero (x.natAbs / y.natAbs)))] at g1
    exact .inr (.inr ⟨hne e, h0, g1, g2⟩)
 obtain ⟨a0, a1, _, _, _⟩ := bA
 obtain ⟨b0, b1, _, _, _⟩ := bB
 obtain ⟨Hov, HB0⟩ := hid2 hov hB0
 clear hov hcase h1 h2 h3 hz hy hl hl2 u1 u2 na nb la lb
 generalize l.length = L at *
 generalize k.length = K at *
 generalize x.natAbs / y.natAbs = q at *
 generalize x.natAbs % y.natAbs = ρ at *
 rcases hways with ⟨rfl, rfl, rfl⟩ | ⟨hst, rfl, hr, rfl⟩ | ⟨hst, hr0, rfl, rfl⟩
 · go_enter Tryz.func99, Tryz.ntmps99
   go_wp2_with fail
   refine Hov.out.mono ?_
   rintro e w1 ⟨_, v2, rfl, ⟨Av, cv, rfl, hv⟩, ⟨Ar, cr, rfl, _⟩, hc1⟩
   replace a0 := keepC hc1 a0
   replace b0 := keepC hc1 b0
   have bR1 := bR.below hc1
   have hP := bR1.put (from_ HB0.out hc1) (by omega) (.bool false) (.slice Av (limbs q).length cv)
   have hu2 := hP.keep (by simp) (⟨Av, cv, rfl, hv⟩ : IsU w1 _ (.slice Av (limbs q).length cv) (limbs q))
   obtain ⟨Hu, HP⟩ := hid2 hu2 hP
   obtain ⟨q0, q1, f0, f1, _⟩ := bR1
   clear hv hu2 hP bR HB0 a1 b1
   go_wp2
   refine bodyPost_ret (res_int rfl _ (w.heap.size + 2) rfl HP.out.c0 HP.out.c1) rfl ?_
   obtain ⟨A', c', e', hu⟩ := Hu.out
   injection e' with e1 _ e3
   subst e1 e3
   exact ⟨_, _, rfl, hu, HP.out.bel⟩
 · have e0 : limbs 0 = [] := limbs_eq_nil.2 rfl
   obtain ⟨D, hD⟩ : ∃ D, D = decide (0 < (limbs q).length) := ⟨_, rfl⟩
   have hdi : decide ((0 : Int) < ((limbs q).length : Int)) = D := by rw [hD]; exact decide_eq_decide.2 (by omega)
   have hdi2 : decide (0 < (limbs q).length) = D := hD.symm
   rw [← hD] at hr
   subst hr
   clear hD
   cases r
   all_goals
    rcases hst with ⟨rfl, rfl⟩ | ⟨rfl, rfl⟩
    all_goals
     go_enter Tryz.func99, Tryz.ntmps99
     go_wp2_with fail
     refine Hov.out.mono ?_
     rintro e w1 ⟨_, v2, rfl, ⟨Av, cv, rfl, hv⟩, ⟨Ar, cr, rfl, _⟩, hc1⟩
     rw [e0]
     replace a0 := keepC hc1 a0
     replace b0 := keepC hc1 b0
     have bR1 := bR.below hc1
     have hP := fun sz => bR1.put (from_ HB0.out hc1) (by omega) (.bool sz) (.slice Av (limbs q).length cv)
     have hu2 := fun sz => (hP sz).keep (by simp) (⟨Av, cv, rfl, hv⟩ : IsU w1 _ (.slice Av (limbs q).length cv) (limbs q))
     obtain ⟨Hu, HP⟩ := hid2 hu2 hP
     obtain ⟨q0, q1, f0, f1, _⟩ := bR1
     clear hv hu2 hP bR HB0 a1 b1
     go_wp2
     refine bodyPost_ret (res_int rfl _ (w.heap.size + 2) rfl (HP.out _).c0 (HP.out _).c1) rfl ?_
     obtain ⟨A', c', e', hu⟩ := Hu.out _
     injection e' with e1 _ e3
     subst e1 e3
     exact ⟨_, _, rfl, hu, (HP.out _).bel⟩
 · have hpos := len_pos.2 hr0
   have hdr : decide ((0 : Int) < ((limbs ρ).length : Int)) = true := decide_eq_true (by omega)
   have hpq := len_pos.2 (show q + 1 ≠ 0 by omega)
   have hdq : decide ((0 : Int) < ((limbs (q + 1)).length : Int)) = true := decide_eq_true (by omega)
   have HQ1 := hid hq1
   clear hq1 hr0
   rcases hst with ⟨rfl, rfl⟩ | ⟨rfl, rfl⟩
   all_goals
    go_enter Tryz.func99, Tryz.ntmps99
    go_wp2_with fail
    refine Hov.out.mono ?_
    rintro e w1 ⟨_, v2, rfl, hq, ⟨Ar, cr, rfl, _⟩, hc1⟩
    replace a0 := keepC hc1 a0
    replace b0 := keepC hc1 b0
    have bR1 := bR.below hc1
    have hB1 := from_ HB0.out hc1
    have hal : Below w1.heap.size w1 (w1.alloc (.cells #[.int .u64 1] 95)) := (Below.refl _ w1).alloc (Nat.le_refl _) _
    have h1 : IsN (w1.alloc (.cells #[.int .u64 1] 95)) old (.slice (some ⟨w1.heap.size, 0, none⟩) 1 1) 1 := isN_one (by omega) (by omega) (cell_newest rfl rfl)
    obtain ⟨hsm, Hal⟩ := hid2 (sum1_good (hq.below hal) h1 (by have := HQ1.out; omega) (by decide +kernel)) hal
    have hsz := bR1.lt
    obtain ⟨Av, cv, rfl, hq⟩ := hq
    clear h1 hal hq bR
    go_wp2_with fail
    refine hsm.out.mono ?_
    rintro e w2 ⟨_, rfl, ⟨Av, cv, rfl, hv⟩, hc2⟩
    have hs2 := step Hal.out hc2
    have bR2 := bR1.below hs2
    have hP := bR2.put (from_ hB1 hs2) (by omega) (.bool true) (.slice Av (limbs (q + 1)).length cv)
    have hu2 := hP.keep (by simp; omega) (⟨Av, cv, rfl, hv⟩ : IsU w2 _ (.slice Av (limbs (q + 1)).length cv) (limbs (q + 1)))
    obtain ⟨Hu, HP⟩ := hid2 hu2 hP
    obtain ⟨q0, q1, f0, f1, _⟩ := bR2
    clear hv hu2 hP HB0 a1 b1 bR1 hB1 hs2 hc2 Hal hc1
    go_wp2
    refine bodyPost_ret (res_int rfl _ (w.heap.size + 2) rfl HP.out.c0 HP.out.c1) rfl ?_
    obtain ⟨A', c', e', hu⟩ := Hu.out
    injection e' with e1 _ e3
    subst e1 e3
    exact ⟨_, _, rfl, hu, HP.out.bel⟩
theorem nm_len (h : Nm x s l) (n : Nat) (hl : l.length ≤ n) : (limbs x.natAbs).length ≤ n := by rw [← h.len]; exact hl
theorem r5turned_v (h1 : Nm x s l) (h3 : Nm z r m) (hz : -x = z) (hl : l.length ≤ 10000000000) (u1 : U64s w Z1 A c l) :
  Calls Tryz.prog 89 #[.agg #[.bool s, .slice A l.length c]] w fun e w' => ∃ Av cv, e = .returned (.agg #[.bool r, .slice Av m.length cv]) ∧ U64s w' (new w.heap.size) Av cv m ∧ Below w.heap.size w w' := by
 subst hz
 refine (r5turned_good (h1.isZ u1) (nm_len h1 _ hl)).mono ?_
 rintro e w' ⟨Bv, dv, rfl, hv, hb⟩
 obtain ⟨Av, cv, e2, hu⟩ := h3.of hv
 rw [e2]
 exact ⟨Av, cv, rfl, hu, hb⟩
end Go.Proofs.YthpngihjcphigaaGreat
