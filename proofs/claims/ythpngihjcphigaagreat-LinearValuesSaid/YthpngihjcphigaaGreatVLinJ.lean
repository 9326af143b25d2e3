/- Linear forms, the program's: Split of forms given by their ends' numbers. No conditions but bounds on lengths. -/
import Derived.Deep.RegionHeld3
import Derived.Test.YthpngihjcphigaaGreatVTelC
import Derived.Test.YthpngihjcphigaaGreatVLinU
import Derived.Test.YthpngihjcphigaaGreatVHeldL
set_option linter.unusedVariables false
set_option linter.unusedSimpArgs false
set_option maxRecDepth 100000
set_option maxHeartbeats 40000000
namespace Go.Proofs.YthpngihjcphigaaGreat
open Go.Lib (hid)
open Go.RowKit
variable {b : Nat} {l : List Nat} {s : Bool} {w : World} {x0 x1 : Value} {z : Int}
theorem st2 {g i j k : Nat} {v : Value} (h : w.cell? ⟨g, i, none⟩ = some v) (hn : b ≠ g) : ((w.setCell ⟨b, j, none⟩ x0).setCell ⟨b, k, none⟩ x1).cell? ⟨g, i, none⟩ = some v := by
 rw [World.cell?_setCell_other _ _ _ _ (fun e => hn (by injection e)), World.cell?_setCell_other _ _ _ _ (fun e => hn (by injection e))]
 exact h
theorem six_st60 {W : World} {r : Nat} {a0 a1 a2 a3 a4 a5 x0 x1 x2 x3 x4 x5 : Value} (hn : r ≠ b) (h : C6 W b a0 a1 a2 a3 a4 a5) :
 let V := ((((((W.setCell ⟨r, 0, none⟩ x0).setCell ⟨r, 1, none⟩ x1).setCell ⟨r, 2, none⟩ x2).setCell ⟨r, 3, none⟩ x3).setCell ⟨r, 4, none⟩ x4).setCell ⟨r, 5, none⟩ x5)
 C6 V b a0 a1 a2 a3 a4 a5 := ⟨st6 h.1 hn, st6 h.2.1 hn, st6 h.2.2.1 hn, st6 h.2.2.2.1 hn, st6 h.2.2.2.2.1 hn, st6 h.2.2.2.2.2 hn⟩
theorem pt_w (h : Nm z s l) (hz : -bigZ < z ∧ z < bigZ) : IvW (z, z) ⟨false, s, l, false, s, l⟩ := by
 have e := nm_e (n := z) hz
 exact ⟨⟨(decide_eq_false (by omega)).symm, h.1.trans e.1.symm, h.2.trans e.2.symm⟩, (decide_eq_false (by omega)).symm, h.1.trans e.1.symm, h.2.trans e.2.symm⟩
theorem nm_okI (h : Nm z s l) : okI s l = true := by
 obtain ⟨rfl, rfl⟩ := h
 exact IsZ.ok z
theorem lsplit_bad {Z Y : Zone} {A B : Option Addr} {c d : Nat} {ps qs : List Iv} {g : Int} (ha : IvsAt w Z A c ps) (hb : IvsAt w Y B d qs) (hs : ∀ p ∈ ps, p.short) (hs2 : ∀ p ∈ qs, p.short) (hg : errFB ps qs = g) (h0 : g ≠ 0) :
  Calls Tryz.prog 22 #[.slice A ps.length c, .slice B qs.length d] w fun e w' => e = .returned (.tuple #[.slice none 0 0, .agg #[.bool false, .bool false, .slice none 0 0, .bool false, .bool false, .slice none 0 0], .int .i64 g]) ∧ Below w.heap.size w w' := by
 have hB0 : Below w.heap.size w (w.alloc (.cells #[.bool false, .bool false, .slice none 0 0, .bool false, .bool false, .slice none 0 0] 29)) := (Below.refl _ w).alloc (Nat.le_refl _) _
 have hR4 := Box6.new w (.bool false) (.bool false) (.slice none 0 0) (.bool false) (.bool false) (.slice none 0 0) 29
 have hck := lchecked_any (ha.below hB0) (hb.below hB0) hs hs2
 rw [hg] at hck
 have t1 : (g != 0) = true := bne_iff_ne.2 h0
 obtain ⟨HR, Hb0, Hck⟩ := hid3 hR4 hB0 hck
 clear ha hb hs hs2 hg h0 hR4 hB0 hck
 generalize ps.length = L at *
 generalize qs.length = M at *
 go_enter Tryz.func22, Tryz.ntmps22
 go_wp2_with fail
 refine Hck.out.mono ?_
 rintro e w1 ⟨rfl, hc⟩
 have R4 := HR.out.below hc
 have HP := hid (R4.put (w := w) (from_ Hb0.out hc) (Nat.le_refl _) (.bool false) (.bool false) (.slice none 0 0) (.bool false) (.bool false) (.slice none 0 0))
 obtain ⟨g0, g1, g2, g3, g4, g5, f0', f1', f2', f3', f4', f5', _⟩ := R4
 clear hc
 go_wp2
 refine bodyPost_ret (res_split rfl _ w.heap.size rfl HP.out.box) rfl ?_
 exact ⟨rfl, HP.out.bel⟩
end Go.Proofs.YthpngihjcphigaaGreat
