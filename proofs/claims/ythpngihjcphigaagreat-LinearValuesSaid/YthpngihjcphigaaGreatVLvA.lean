/- Linear forms, the document's: may intervals, may a form be; the error of a form and a box. No conditions but bounds on lengths. -/
import Derived.Test.YthpngihjcphigaaGreatVWhV
import Derived.Test.YthpngihjcphigaaGreatVItvV
set_option linter.unusedVariables false
set_option linter.unusedSimpArgs false
set_option maxRecDepth 100000
set_option maxHeartbeats 40000000
namespace Go.Proofs.YthpngihjcphigaaGreat
open Go.Lib (hid)
open Go.RowKit
variable {A : Option Addr} {Z : Zone} {c : Nat} {w : World}
theorem rmays_any {ps : List Iv} (ha : IvsAt w Z A c ps) (hs : ∀ p ∈ ps, p.short) :
  Calls Tryz.prog 105 #[.slice A ps.length c] w fun e w' => e = .returned (.bool (ps.all Iv.ok)) ∧ Below w.heap.size w w' := by
 have hl := ha.len
 go_enter Tryz.func105, Tryz.ntmps105
 go_wp2
 go_loopw [3] (fun i wr => ∃ k : Nat, k ≤ ps.length ∧ i = .int .i64 k ∧ Below w.heap.size w wr ∧ Hid (∀ j (hj : j < ps.length), j < k → ps[j].ok = true)) (fun i _ => ps.length - (intOf i).toNat)
 case atStart => exact ⟨0, Nat.zero_le _, rfl, Below.refl _ _, fun j hj h => absurd h (by omega)⟩
 case round =>
  obtain ⟨k, hk, rfl, hbel, hz⟩ := hrel
  by_cases hlt : k < ps.length
  · obtain ⟨b, o, A0, d0, A1, d1, rfl, hbb, ⟨c0, c1, c2, c3, c4, c5⟩, u0, u1⟩ := (ha.below hbel).at hlt
    have hsp := hs _ (List.getElem_mem hlt)
    have hck := r16may_any (n0 := ps[k].n0) (s0 := ps[k].s0) (n1 := ps[k].n1) (s1 := ps[k].s1) u0 u1 hsp.1 hsp.2
    have hck' : Calls Tryz.prog 69 #[.agg #[.bool ps[k].n0, .bool ps[k].s0, .slice A0 ps[k].l0.length d0, .bool ps[k].n1, .bool ps[k].s1, .slice A1 ps[k].l1.length d1]] wr fun e w' => e = .returned (.bool ps[k].ok) ∧ Below wr.heap.size wr w' := hck
    have hok : ps[k].ok = true ∨ ps[k].ok = false := by cases ps[k].ok <;> simp
    have Hall : Hid (ps[k].ok = true → ∀ j (hj : j < ps.length), j < k + 1 → ps[j].ok = true) := fun hx j hj hjk => by
     rcases Nat.lt_or_ge j k with h1 | h1
     · exact hz.out j hj h1
     · obtain rfl : j = k := by omega
       exact hx
    have Hnone : Hid (ps[k].ok = false → ps.all Iv.ok = false) := fun hx => List.all_eq_false.2 ⟨ps[k], List.getElem_mem hlt, by rw [hx]; simp⟩
    clear u0 u1 hz hck hsp
    generalize ps[k] = p at *
    rcases hok with hok | hok
    all_goals
     rw [hok] at hck'
     obtain ⟨Hck, Hok⟩ := hid2 hck' hok
     clear hck' hok
     go_wp2_with fail
     refine Hck.out.mono ?_
     rintro e w1 ⟨rfl, hb2⟩
     have hb3 := from_ hbel hb2
     go_wp2
    · go_roundw
      case rel => exact ⟨k + 1, by omega, by go_num, hb3, hid (Hall.out Hok.out)⟩
      case measure => simp [intOf]; omega
    · go_ret
      rw [Hnone.out Hok.out]
      exact ⟨rfl, hb3⟩
  · obtain rfl : k = ps.length := by omega
    have hall : ps.all Iv.ok = true := List.all_eq_true.2 fun p hp => by
     obtain ⟨j, hj, rfl⟩ := List.getElem_of_mem hp
     exact hz.out j hj hj
    clear hz
    go_wp2
    go_ret
    rw [hall]
    exact ⟨rfl, hbel⟩
theorem rmayF_any {ps : List Iv} (ha : IvsAt w Z A c ps) (hs : ∀ p ∈ ps, p.short) {r : Bool} (hr : decide (errF ps = 0) = r) :
  Calls Tryz.prog 104 #[.slice A ps.length c] w fun e w' => e = .returned (.bool r) ∧ Below w.heap.size w w' := by
 have hc := rmays_any ha hs
 have hlen := ha.len
 by_cases h1 : ps.length < 1
 · have e : r = false := by rw [← hr]; unfold errF; rw [if_neg (by omega)]; rfl
   subst e
   have t1 : decide ((1 : Int) ≤ (ps.length : Int)) = false := decide_eq_false (by omega)
   have t2 : ps.length = 0 := by omega
   rw [t2] at t1 ⊢
   clear hc ha hs hr h1 hlen t2
   go_enter Tryz.func104, Tryz.ntmps104
   go_wp2
   go_ret
   exact ⟨rfl, Below.refl _ _⟩
 · have t1 : decide ((1 : Int) ≤ (ps.length : Int)) = true := decide_eq_true (by omega)
   by_cases h2 : 64 < ps.length
   · have e : r = false := by rw [← hr]; unfold errF; rw [if_neg (by omega)]; rfl
     subst e
     have t2 : decide ((ps.length : Int) ≤ 64) = false := decide_eq_false (by omega)
     clear hc ha hs hr
     generalize ps.length = L at *
     go_enter Tryz.func104, Tryz.ntmps104
     go_wp2
     go_ret
     exact ⟨rfl, Below.refl _ _⟩
   · have t2 : decide ((ps.length : Int) ≤ 64) = true := decide_eq_true (by omega)
     have e : ps.all Iv.ok = r := by
      rw [← hr]; unfold errF
      cases ps.all Iv.ok
      · rw [if_neg (by simp)]; rfl
      · rw [if_pos ⟨by omega, rfl⟩]; rfl
     rw [e] at hc
     have Hc := hid hc
     clear hc ha hs e hr
     generalize ps.length = L at *
     go_enter Tryz.func104, Tryz.ntmps104
     go_wp2_with fail
     refine Hc.out.mono ?_
     rintro e w1 ⟨rfl, hb⟩
     go_wp2
     go_ret
     exact ⟨rfl, hb⟩
theorem rboxed_any {Y : Zone} {B : Option Addr} {d : Nat} {ps qs : List Iv} (ha : IvsAt w Z A c ps) (hb : IvsAt w Y B d qs) (hs : ∀ p ∈ ps, p.short) (hs2 : ∀ p ∈ qs, p.short) :
  Calls Tryz.prog 59 #[.slice A ps.length c, .slice B qs.length d] w fun e w' => e = .returned (.int .i64 (errFB ps qs)) ∧ Below w.heap.size w w' := by
 obtain ⟨r, hr⟩ : ∃ r, decide (errF ps = 0) = r := ⟨_, rfl⟩
 have hc := rmayF_any ha hs hr
 have hd : ∀ w', Below w.heap.size w w' → _ := fun w' h => rmays_any (hb.below (w' := w') h) hs2
 have l1 := ha.len
 have l2 := hb.len
 have e0 : errFB ps qs = if r = true ∧ qs.all Iv.ok = true then (if qs.length + 1 = ps.length then 0 else 70) else 8 := by
  unfold errFB; rw [← hr]; simp
 generalize errFB ps qs = E at *
 generalize qs.all Iv.ok = s at *
 obtain ⟨Hc, Hd⟩ := hid2 hc hd
 clear hc hd ha hb hs hs2 hr
 cases r
 · obtain rfl : E = 8 := by simpa using e0
   clear e0
   go_enter Tryz.func59, Tryz.ntmps59
   go_wp2_with fail
   refine Hc.out.mono ?_
   rintro e w1 ⟨rfl, hb1⟩
   go_wp2
   go_ret
   exact ⟨rfl, hb1⟩
 · cases s
   · obtain rfl : E = 8 := by simpa using e0
     clear e0
     go_enter Tryz.func59, Tryz.ntmps59
     go_wp2_with fail
     refine Hc.out.mono ?_
     rintro e w1 ⟨rfl, hb1⟩
     have Hd1 := hid (Hd.out w1 hb1)
     go_wp2_with fail
     refine Hd1.out.mono ?_
     rintro e w2 ⟨rfl, hb2⟩
     have hb3 := from_ hb1 hb2
     go_wp2
     go_ret
     exact ⟨rfl, hb3⟩
   · have hw : ∃ q : Int, IntKind.i64.wrap ((qs.length : Int) + 1) = q ∧ (((q != (ps.length : Int)) = false ∧ E = 0) ∨ ((q != (ps.length : Int)) = true ∧ E = 70)) := by
      rcases Nat.lt_or_ge qs.length 9223372036854775807 with h | h
      · refine ⟨_, (by rw [IntKind.wrap_i64]; omega : IntKind.i64.wrap ((qs.length : Int) + 1) = (qs.length : Int) + 1), ?_⟩
        by_cases h2 : qs.length + 1 = ps.length
        · exact .inl ⟨bne_eq_false_iff_eq.2 (by omega), by rw [e0]; simp [h2]⟩
        · exact .inr ⟨bne_iff_ne.2 (by omega), by rw [e0]; simp [h2]⟩
      · have h0 : qs.length = 9223372036854775807 := by omega
        refine ⟨-9223372036854775808, by rw [h0]; decide, .inr ⟨bne_iff_ne.2 (by omega), by rw [e0, if_pos ⟨rfl, rfl⟩, if_neg (by omega)]⟩⟩
     clear e0
     obtain ⟨q, hq, hw⟩ := hw
     rcases hw with ⟨hne, rfl⟩ | ⟨hne, rfl⟩
     all_goals
      generalize qs.length = M at *
      generalize ps.length = L at *
      go_enter Tryz.func59, Tryz.ntmps59
      go_wp2_with fail
      refine Hc.out.mono ?_
      rintro e w1 ⟨rfl, hb1⟩
      have Hd1 := hid (Hd.out w1 hb1)
      go_wp2_with fail
      refine Hd1.out.mono ?_
      rintro e w2 ⟨rfl, hb2⟩
      have hb3 := from_ hb1 hb2
      go_wp2
      go_ret
      exact ⟨rfl, hb3⟩
end Go.Proofs.YthpngihjcphigaaGreat
