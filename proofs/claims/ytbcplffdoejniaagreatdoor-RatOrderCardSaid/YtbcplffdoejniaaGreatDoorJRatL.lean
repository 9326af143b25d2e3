/-
  Fractions: what rat.Add, Mul and Div hand to joined. No conditions but bounds on lengths.
  Fractions: rat.joined; rat.Add, Mul and Div of fractions, and of what is none. No conditions but bounds on lengths.
  Fractions: rat.Add, Mul and Div by name. No conditions but bounds on lengths.
  Fractions: errors; rat.Sub, Cmp, Floor, Ceil. No conditions but bounds on lengths.
  Fractions: rat.Cmp, Floor, Ceil. No conditions but bounds on lengths.
-/
import Derived.Deep.RegionHeld3
import Derived.Test.YtbcplffdoejniaaGreatDoorJRatG
namespace Go.Proofs.YtbcplffdoejniaaGreatDoor
open Go.RowKit
set_option linter.unusedVariables false
set_option linter.unusedSimpArgs false

theorem boxQ_keep {W W' : World} {g h : Nat} {x0 x1 x2 y0 y1 y2 : Value} (hs : W.cell? ⟨g, 0, none⟩ = some (x0) ∧ W.cell? ⟨g, 1, none⟩ = some (x1) ∧ W.cell? ⟨g, 2, none⟩ = some (x2) ∧ W.cell? ⟨h, 0, none⟩ = some (y0) ∧ W.cell? ⟨h, 1, none⟩ = some (y1) ∧ W.cell? ⟨h, 2, none⟩ = some (y2)) (hb : Below W.heap.size W W') : W'.cell? ⟨g, 0, none⟩ = some (x0) ∧ W'.cell? ⟨g, 1, none⟩ = some (x1) ∧ W'.cell? ⟨g, 2, none⟩ = some (x2) ∧ W'.cell? ⟨h, 0, none⟩ = some (y0) ∧ W'.cell? ⟨h, 1, none⟩ = some (y1) ∧ W'.cell? ⟨h, 2, none⟩ = some (y2) := by
  obtain ⟨h0, h1, h2, h3, h4, h5⟩ := hs
  exact ⟨keepC hb h0, keepC hb h1, keepC hb h2, keepC hb h3, keepC hb h4, keepC hb h5⟩
theorem stQ2 {W : World} {g r i : Nat} {v x y : Value} (h : W.cell? ⟨g, i, none⟩ = some v) (hn : r ≠ g) : ((W.setCell ⟨r, 0, none⟩ x).setCell ⟨r, 1, none⟩ y).cell? ⟨g, i, none⟩ = some v := by
  rw [World.cell?_setCell_other _ _ _ _ (fun e => hn (by injection e)), World.cell?_setCell_other _ _ _ _ (fun e => hn (by injection e))]
  exact h
theorem boxQ_st2 {W : World} {g h r : Nat} {x0 x1 x2 y0 y1 y2 x y : Value} (hg : r ≠ g) (hh : r ≠ h) (hs : W.cell? ⟨g, 0, none⟩ = some (x0) ∧ W.cell? ⟨g, 1, none⟩ = some (x1) ∧ W.cell? ⟨g, 2, none⟩ = some (x2) ∧ W.cell? ⟨h, 0, none⟩ = some (y0) ∧ W.cell? ⟨h, 1, none⟩ = some (y1) ∧ W.cell? ⟨h, 2, none⟩ = some (y2)) :
    let V := (W.setCell ⟨r, 0, none⟩ x).setCell ⟨r, 1, none⟩ y
    V.cell? ⟨g, 0, none⟩ = some (x0) ∧ V.cell? ⟨g, 1, none⟩ = some (x1) ∧ V.cell? ⟨g, 2, none⟩ = some (x2) ∧ V.cell? ⟨h, 0, none⟩ = some (y0) ∧ V.cell? ⟨h, 1, none⟩ = some (y1) ∧ V.cell? ⟨h, 2, none⟩ = some (y2) := by
  obtain ⟨h0, h1, h2, h3, h4, h5⟩ := hs
  exact ⟨stQ2 h0 hg, stQ2 h1 hg, stQ2 h2 hg, stQ2 h3 hh, stQ2 h4 hh, stQ2 h5 hh⟩

set_option maxRecDepth 100000 in
set_option maxHeartbeats 2000000 in
theorem radd1 {w : World} {Z1 Z2 Z3 Z4 : Zone} {p q : Rat} {s t r : Bool} {l k l' k' m : List Nat} {A B C D : Option Addr} {a b c d g h : Nat} (hs : w.cell? ⟨g, 0, none⟩ = some (.bool s) ∧ w.cell? ⟨g, 1, none⟩ = some (.slice A l.length a) ∧ w.cell? ⟨g, 2, none⟩ = some (.slice B k.length b) ∧ w.cell? ⟨h, 0, none⟩ = some (.bool t) ∧ w.cell? ⟨h, 1, none⟩ = some (.slice C l'.length c) ∧ w.cell? ⟨h, 2, none⟩ = some (.slice D k'.length d)) (hp : NmQ p s l k) (hq : NmQ q t l' k') (hz : Nm (p.num * (q.den : Int) + q.num * (p.den : Int)) r m) (q1 : l.length ≤ 20000) (q2 : k.length ≤ 20000) (q3 : l'.length ≤ 20000) (q4 : k'.length ≤ 20000) (u1 : U64s w Z1 A a l) (u2 : U64s w Z2 B b k) (u3 : U64s w Z3 C c l') (u4 : U64s w Z4 D d k') :
    Calls Tryz.prog 35 #[.pointer (some ⟨g, 0, none⟩), .pointer (some ⟨h, 0, none⟩)] w fun e w' => ∃ Av cv, e = .returned (.agg #[.bool r, .slice Av m.length cv]) ∧ U64s w' (new w.heap.size) Av cv m ∧ Below w.heap.size w w' := by
  have hB0 : Below w.heap.size w (w.alloc (.cells #[.bool false, .slice none 0 0] 25)) := (Below.refl _ w).alloc (Nat.le_refl _) _
  have bR := Box.new w (.bool false) (.slice none 0 0) 25
  have hg : g < w.heap.size := lt_of_cell hs.1
  have hh : h < w.heap.size := lt_of_cell hs.2.2.2.1
  have N1 := Lib.hid (show w.heap.size ≠ g by omega)
  have N2 := Lib.hid (show w.heap.size ≠ h by omega)
  replace hs := boxQ_keep hs hB0.drew
  have Hc := Lib.hid hB0.drew
  have HR := Lib.hid (bR.below (Below.refl _ _).drew)
  have Da := Lib.hid (fun (W : World) => rden_n (w := W) (s := s) (l := l) (k := k) (A := A) (B := B) (c := a) (d := b))
  have Db := Lib.hid (fun (W : World) => rden_n (w := W) (s := t) (l := l') (k := k') (A := C) (B := D) (c := c) (d := d))
  obtain ⟨r0, m0, z0⟩ : ∃ s l, Nm (p.num * (q.den : Int)) s l := ⟨_, _, Nm.mk' _⟩
  have P0 := Lib.hid (fun (W : World) (hW : Below w.heap.size w W) => rprod_n hp.num hq.den z0 rfl (by omega) (by omega) (u1.below hW) (u4.below hW))
  obtain ⟨r1, m1, z1⟩ : ∃ s l, Nm (q.num * (p.den : Int)) s l := ⟨_, _, Nm.mk' _⟩
  have P1 := Lib.hid (fun (W : World) (hW : Below w.heap.size w W) => rprod_n hq.num hp.den z1 rfl (by omega) (by omega) (u3.below hW) (u2.below hW))
  have e0 := lz_mul (p.num) ((q.den : Int))
  have e1 := lz_mul (q.num) ((p.den : Int))
  have f0 := z0.len
  have f1 := z1.len
  have f2 := hp.num.len
  have f3 := hp.den.len
  have f4 := hq.num.len
  have f5 := hq.den.len
  have PS := Lib.hid (fun (W : World) (Y1 Y2 : Zone) (A1 A2 : Option Addr) (c1 c2 : Nat) (h1 : U64s W Y1 A1 c1 m0) (h2 : U64s W Y2 A2 c2 m1) => rsum_n z0 z1 hz rfl (by omega) (by omega) h1 h2)
  clear e0 e1 f0 f1 f2 f3 f4 f5 z0 z1
  clear bR hB0 hg hh hp hq hz q1 q2 q3 q4 u1 u2 u3 u4
  go_enter Tryz.func35, Tryz.ntmps35
  go_wp2
  go_region_held3 (fun w' => w'.cell? ⟨g, 0, none⟩ = some (.bool s) ∧ w'.cell? ⟨g, 1, none⟩ = some (.slice A l.length a) ∧ w'.cell? ⟨g, 2, none⟩ = some (.slice B k.length b) ∧ w'.cell? ⟨h, 0, none⟩ = some (.bool t) ∧ w'.cell? ⟨h, 1, none⟩ = some (.slice C l'.length c) ∧ w'.cell? ⟨h, 2, none⟩ = some (.slice D k'.length d))
    (first
      | with_reducible exact hs
      | with_reducible exact boxQ_st2 N1.out N2.out hs)
    (first
      | (go_at_call 38; with_reducible refine (Db.out _).mono ?_; rintro e w' ⟨rfl, hc⟩; replace hs := boxQ_keep hs hc; replace HR := Lib.hid (HR.out.below hc); replace Hc := Lib.hid (from_ Hc.out hc))
      | (go_at_call 37; with_reducible refine (P0.out _ Hc.out).mono ?_; rintro e w' ⟨A1, c1, rfl, o1, hc⟩; replace hs := boxQ_keep hs hc; replace HR := Lib.hid (HR.out.below hc); replace Hc := Lib.hid (from_ Hc.out hc))
      | (go_at_call 38; with_reducible refine (Da.out _).mono ?_; rintro e w' ⟨rfl, hc⟩; replace hs := boxQ_keep hs hc; replace HR := Lib.hid (HR.out.below hc); replace Hc := Lib.hid (from_ Hc.out hc); replace o1 := o1.below hc)
      | (go_at_call 37; with_reducible refine (P1.out _ Hc.out).mono ?_; rintro e w' ⟨A2, c2, rfl, o2, hc⟩; replace hs := boxQ_keep hs hc; replace HR := Lib.hid (HR.out.below hc); replace Hc := Lib.hid (from_ Hc.out hc); replace o1 := o1.below hc)
      | (go_at_call 36; with_reducible refine (PS.out _ _ _ _ _ _ _ o1 o2).mono ?_; rintro e w' ⟨Av, cv, rfl, o9, hc⟩; replace hs := boxQ_keep hs hc; have zl := HR.out.lt; replace HR := Lib.hid (HR.out.below hc); have Hp := Hc; replace Hc := Lib.hid (from_ Hc.out hc); obtain ⟨qq0, qq1, ff0, ff1, _⟩ := id HR.out))
  all_goals
    have HP := Lib.hid (HR.out.put Hc.out (Nat.le_refl _) (.bool r) (.slice Av m.length cv))
    have hiv : IsU _ _ (.slice Av m.length cv) m := ⟨Av, cv, rfl, o9⟩
    have Hu := Lib.hid (HP.out.keep zl hiv)
    clear hiv o9
    go_wp2
    refine bodyPost_ret (res_int rfl _ w.heap.size rfl HP.out.c0 HP.out.c1) rfl ?_
    obtain ⟨A', c', e', h'⟩ := Hu.out
    injection e' with e1 e2 e3
    subst e1 e3
    exact ⟨_, _, rfl, h', HP.out.bel⟩

set_option maxRecDepth 100000 in
set_option maxHeartbeats 2000000 in
theorem radd2 {w : World} {Z1 Z2 Z3 Z4 : Zone} {p q : Rat} {s t r : Bool} {l k l' k' m : List Nat} {A B C D : Option Addr} {a b c d g h : Nat} (hs : w.cell? ⟨g, 0, none⟩ = some (.bool s) ∧ w.cell? ⟨g, 1, none⟩ = some (.slice A l.length a) ∧ w.cell? ⟨g, 2, none⟩ = some (.slice B k.length b) ∧ w.cell? ⟨h, 0, none⟩ = some (.bool t) ∧ w.cell? ⟨h, 1, none⟩ = some (.slice C l'.length c) ∧ w.cell? ⟨h, 2, none⟩ = some (.slice D k'.length d)) (hp : NmQ p s l k) (hq : NmQ q t l' k') (hz : Nm ((p.den : Int) * (q.den : Int)) r m) (q1 : l.length ≤ 20000) (q2 : k.length ≤ 20000) (q3 : l'.length ≤ 20000) (q4 : k'.length ≤ 20000) (u1 : U64s w Z1 A a l) (u2 : U64s w Z2 B b k) (u3 : U64s w Z3 C c l') (u4 : U64s w Z4 D d k') :
    Calls Tryz.prog 39 #[.pointer (some ⟨g, 0, none⟩), .pointer (some ⟨h, 0, none⟩)] w fun e w' => ∃ Av cv, e = .returned (.agg #[.bool r, .slice Av m.length cv]) ∧ U64s w' (new w.heap.size) Av cv m ∧ Below w.heap.size w w' := by
  have hB0 : Below w.heap.size w (w.alloc (.cells #[.bool false, .slice none 0 0] 25)) := (Below.refl _ w).alloc (Nat.le_refl _) _
  have bR := Box.new w (.bool false) (.slice none 0 0) 25
  have hg : g < w.heap.size := lt_of_cell hs.1
  have hh : h < w.heap.size := lt_of_cell hs.2.2.2.1
  have N1 := Lib.hid (show w.heap.size ≠ g by omega)
  have N2 := Lib.hid (show w.heap.size ≠ h by omega)
  replace hs := boxQ_keep hs hB0.drew
  have Hc := Lib.hid hB0.drew
  have HR := Lib.hid (bR.below (Below.refl _ _).drew)
  have Da := Lib.hid (fun (W : World) => rden_n (w := W) (s := s) (l := l) (k := k) (A := A) (B := B) (c := a) (d := b))
  have Db := Lib.hid (fun (W : World) => rden_n (w := W) (s := t) (l := l') (k := k') (A := C) (B := D) (c := c) (d := d))
  have P0 := Lib.hid (fun (W : World) (hW : Below w.heap.size w W) => rprod_n hp.den hq.den hz rfl (by omega) (by omega) (u2.below hW) (u4.below hW))
  clear bR hB0 hg hh hp hq hz q1 q2 q3 q4 u1 u2 u3 u4
  go_enter Tryz.func39, Tryz.ntmps39
  go_wp2
  go_region_held3 (fun w' => w'.cell? ⟨g, 0, none⟩ = some (.bool s) ∧ w'.cell? ⟨g, 1, none⟩ = some (.slice A l.length a) ∧ w'.cell? ⟨g, 2, none⟩ = some (.slice B k.length b) ∧ w'.cell? ⟨h, 0, none⟩ = some (.bool t) ∧ w'.cell? ⟨h, 1, none⟩ = some (.slice C l'.length c) ∧ w'.cell? ⟨h, 2, none⟩ = some (.slice D k'.length d))
    (first
      | with_reducible exact hs
      | with_reducible exact boxQ_st2 N1.out N2.out hs)
    (first
      | (go_at_call 38; with_reducible refine (Da.out _).mono ?_; rintro e w' ⟨rfl, hc⟩; replace hs := boxQ_keep hs hc; replace HR := Lib.hid (HR.out.below hc); replace Hc := Lib.hid (from_ Hc.out hc))
      | (go_at_call 38; with_reducible refine (Db.out _).mono ?_; rintro e w' ⟨rfl, hc⟩; replace hs := boxQ_keep hs hc; replace HR := Lib.hid (HR.out.below hc); replace Hc := Lib.hid (from_ Hc.out hc))
      | (go_at_call 37; with_reducible refine (P0.out _ Hc.out).mono ?_; rintro e w' ⟨Av, cv, rfl, o9, hc⟩; replace hs := boxQ_keep hs hc; have zl := HR.out.lt; replace HR := Lib.hid (HR.out.below hc); have Hp := Hc; replace Hc := Lib.hid (from_ Hc.out hc); obtain ⟨qq0, qq1, ff0, ff1, _⟩ := id HR.out))
  all_goals
    have HP := Lib.hid (HR.out.put Hc.out (Nat.le_refl _) (.bool r) (.slice Av m.length cv))
    have hiv : IsU _ _ (.slice Av m.length cv) m := ⟨Av, cv, rfl, o9⟩
    have Hu := Lib.hid (HP.out.keep zl hiv)
    clear hiv o9
    go_wp2
    refine bodyPost_ret (res_int rfl _ w.heap.size rfl HP.out.c0 HP.out.c1) rfl ?_
    obtain ⟨A', c', e', h'⟩ := Hu.out
    injection e' with e1 e2 e3
    subst e1 e3
    exact ⟨_, _, rfl, h', HP.out.bel⟩

set_option maxRecDepth 100000 in
set_option maxHeartbeats 2000000 in
theorem rmul2 {w : World} {Z1 Z2 Z3 Z4 : Zone} {p q : Rat} {s t r : Bool} {l k l' k' m : List Nat} {A B C D : Option Addr} {a b c d g h : Nat} (hs : w.cell? ⟨g, 0, none⟩ = some (.bool s) ∧ w.cell? ⟨g, 1, none⟩ = some (.slice A l.length a) ∧ w.cell? ⟨g, 2, none⟩ = some (.slice B k.length b) ∧ w.cell? ⟨h, 0, none⟩ = some (.bool t) ∧ w.cell? ⟨h, 1, none⟩ = some (.slice C l'.length c) ∧ w.cell? ⟨h, 2, none⟩ = some (.slice D k'.length d)) (hp : NmQ p s l k) (hq : NmQ q t l' k') (hz : Nm ((p.den : Int) * (q.den : Int)) r m) (q1 : l.length ≤ 20000) (q2 : k.length ≤ 20000) (q3 : l'.length ≤ 20000) (q4 : k'.length ≤ 20000) (u1 : U64s w Z1 A a l) (u2 : U64s w Z2 B b k) (u3 : U64s w Z3 C c l') (u4 : U64s w Z4 D d k') :
    Calls Tryz.prog 41 #[.pointer (some ⟨g, 0, none⟩), .pointer (some ⟨h, 0, none⟩)] w fun e w' => ∃ Av cv, e = .returned (.agg #[.bool r, .slice Av m.length cv]) ∧ U64s w' (new w.heap.size) Av cv m ∧ Below w.heap.size w w' := by
  have hB0 : Below w.heap.size w (w.alloc (.cells #[.bool false, .slice none 0 0] 25)) := (Below.refl _ w).alloc (Nat.le_refl _) _
  have bR := Box.new w (.bool false) (.slice none 0 0) 25
  have hg : g < w.heap.size := lt_of_cell hs.1
  have hh : h < w.heap.size := lt_of_cell hs.2.2.2.1
  have N1 := Lib.hid (show w.heap.size ≠ g by omega)
  have N2 := Lib.hid (show w.heap.size ≠ h by omega)
  replace hs := boxQ_keep hs hB0.drew
  have Hc := Lib.hid hB0.drew
  have HR := Lib.hid (bR.below (Below.refl _ _).drew)
  have Da := Lib.hid (fun (W : World) => rden_n (w := W) (s := s) (l := l) (k := k) (A := A) (B := B) (c := a) (d := b))
  have Db := Lib.hid (fun (W : World) => rden_n (w := W) (s := t) (l := l') (k := k') (A := C) (B := D) (c := c) (d := d))
  have P0 := Lib.hid (fun (W : World) (hW : Below w.heap.size w W) => rprod_n hp.den hq.den hz rfl (by omega) (by omega) (u2.below hW) (u4.below hW))
  clear bR hB0 hg hh hp hq hz q1 q2 q3 q4 u1 u2 u3 u4
  go_enter Tryz.func41, Tryz.ntmps41
  go_wp2
  go_region_held3 (fun w' => w'.cell? ⟨g, 0, none⟩ = some (.bool s) ∧ w'.cell? ⟨g, 1, none⟩ = some (.slice A l.length a) ∧ w'.cell? ⟨g, 2, none⟩ = some (.slice B k.length b) ∧ w'.cell? ⟨h, 0, none⟩ = some (.bool t) ∧ w'.cell? ⟨h, 1, none⟩ = some (.slice C l'.length c) ∧ w'.cell? ⟨h, 2, none⟩ = some (.slice D k'.length d))
    (first
      | with_reducible exact hs
      | with_reducible exact boxQ_st2 N1.out N2.out hs)
    (first
      | (go_at_call 38; with_reducible refine (Da.out _).mono ?_; rintro e w' ⟨rfl, hc⟩; replace hs := boxQ_keep hs hc; replace HR := Lib.hid (HR.out.below hc); replace Hc := Lib.hid (from_ Hc.out hc))
      | (go_at_call 38; with_reducible refine (Db.out _).mono ?_; rintro e w' ⟨rfl, hc⟩; replace hs := boxQ_keep hs hc; replace HR := Lib.hid (HR.out.below hc); replace Hc := Lib.hid (from_ Hc.out hc))
      | (go_at_call 37; with_reducible refine (P0.out _ Hc.out).mono ?_; rintro e w' ⟨Av, cv, rfl, o9, hc⟩; replace hs := boxQ_keep hs hc; have zl := HR.out.lt; replace HR := Lib.hid (HR.out.below hc); have Hp := Hc; replace Hc := Lib.hid (from_ Hc.out hc); obtain ⟨qq0, qq1, ff0, ff1, _⟩ := id HR.out))
  all_goals
    have HP := Lib.hid (HR.out.put Hc.out (Nat.le_refl _) (.bool r) (.slice Av m.length cv))
    have hiv : IsU _ _ (.slice Av m.length cv) m := ⟨Av, cv, rfl, o9⟩
    have Hu := Lib.hid (HP.out.keep zl hiv)
    clear hiv o9
    go_wp2
    refine bodyPost_ret (res_int rfl _ w.heap.size rfl HP.out.c0 HP.out.c1) rfl ?_
    obtain ⟨A', c', e', h'⟩ := Hu.out
    injection e' with e1 e2 e3
    subst e1 e3
    exact ⟨_, _, rfl, h', HP.out.bel⟩

set_option maxRecDepth 100000 in
set_option maxHeartbeats 2000000 in
theorem rdiv1 {w : World} {Z1 Z2 Z3 Z4 : Zone} {p q : Rat} {s t r : Bool} {l k l' k' m : List Nat} {A B C D : Option Addr} {a b c d g h : Nat} (hs : w.cell? ⟨g, 0, none⟩ = some (.bool s) ∧ w.cell? ⟨g, 1, none⟩ = some (.slice A l.length a) ∧ w.cell? ⟨g, 2, none⟩ = some (.slice B k.length b) ∧ w.cell? ⟨h, 0, none⟩ = some (.bool t) ∧ w.cell? ⟨h, 1, none⟩ = some (.slice C l'.length c) ∧ w.cell? ⟨h, 2, none⟩ = some (.slice D k'.length d)) (hp : NmQ p s l k) (hq : NmQ q t l' k') (hz : Nm (p.num * (q.den : Int)) r m) (q1 : l.length ≤ 20000) (q2 : k.length ≤ 20000) (q3 : l'.length ≤ 20000) (q4 : k'.length ≤ 20000) (u1 : U64s w Z1 A a l) (u2 : U64s w Z2 B b k) (u3 : U64s w Z3 C c l') (u4 : U64s w Z4 D d k') :
    Calls Tryz.prog 44 #[.pointer (some ⟨g, 0, none⟩), .pointer (some ⟨h, 0, none⟩)] w fun e w' => ∃ Av cv, e = .returned (.agg #[.bool r, .slice Av m.length cv]) ∧ U64s w' (new w.heap.size) Av cv m ∧ Below w.heap.size w w' := by
  have hB0 : Below w.heap.size w (w.alloc (.cells #[.bool false, .slice none 0 0] 25)) := (Below.refl _ w).alloc (Nat.le_refl _) _
  have bR := Box.new w (.bool false) (.slice none 0 0) 25
  have hg : g < w.heap.size := lt_of_cell hs.1
  have hh : h < w.heap.size := lt_of_cell hs.2.2.2.1
  have N1 := Lib.hid (show w.heap.size ≠ g by omega)
  have N2 := Lib.hid (show w.heap.size ≠ h by omega)
  replace hs := boxQ_keep hs hB0.drew
  have Hc := Lib.hid hB0.drew
  have HR := Lib.hid (bR.below (Below.refl _ _).drew)
  have Da := Lib.hid (fun (W : World) => rden_n (w := W) (s := s) (l := l) (k := k) (A := A) (B := B) (c := a) (d := b))
  have Db := Lib.hid (fun (W : World) => rden_n (w := W) (s := t) (l := l') (k := k') (A := C) (B := D) (c := c) (d := d))
  have P0 := Lib.hid (fun (W : World) (hW : Below w.heap.size w W) => rprod_n hp.num hq.den hz rfl (by omega) (by omega) (u1.below hW) (u4.below hW))
  clear bR hB0 hg hh hp hq hz q1 q2 q3 q4 u1 u2 u3 u4
  go_enter Tryz.func44, Tryz.ntmps44
  go_wp2
  go_region_held3 (fun w' => w'.cell? ⟨g, 0, none⟩ = some (.bool s) ∧ w'.cell? ⟨g, 1, none⟩ = some (.slice A l.length a) ∧ w'.cell? ⟨g, 2, none⟩ = some (.slice B k.length b) ∧ w'.cell? ⟨h, 0, none⟩ = some (.bool t) ∧ w'.cell? ⟨h, 1, none⟩ = some (.slice C l'.length c) ∧ w'.cell? ⟨h, 2, none⟩ = some (.slice D k'.length d))
    (first
      | with_reducible exact hs
      | with_reducible exact boxQ_st2 N1.out N2.out hs)
    (first
      | (go_at_call 38; with_reducible refine (Db.out _).mono ?_; rintro e w' ⟨rfl, hc⟩; replace hs := boxQ_keep hs hc; replace HR := Lib.hid (HR.out.below hc); replace Hc := Lib.hid (from_ Hc.out hc))
      | (go_at_call 37; with_reducible refine (P0.out _ Hc.out).mono ?_; rintro e w' ⟨Av, cv, rfl, o9, hc⟩; replace hs := boxQ_keep hs hc; have zl := HR.out.lt; replace HR := Lib.hid (HR.out.below hc); have Hp := Hc; replace Hc := Lib.hid (from_ Hc.out hc); obtain ⟨qq0, qq1, ff0, ff1, _⟩ := id HR.out))
  all_goals
    have HP := Lib.hid (HR.out.put Hc.out (Nat.le_refl _) (.bool r) (.slice Av m.length cv))
    have hiv : IsU _ _ (.slice Av m.length cv) m := ⟨Av, cv, rfl, o9⟩
    have Hu := Lib.hid (HP.out.keep zl hiv)
    clear hiv o9
    go_wp2
    refine bodyPost_ret (res_int rfl _ w.heap.size rfl HP.out.c0 HP.out.c1) rfl ?_
    obtain ⟨A', c', e', h'⟩ := Hu.out
    injection e' with e1 e2 e3
    subst e1 e3
    exact ⟨_, _, rfl, h', HP.out.bel⟩

set_option maxRecDepth 100000 in
set_option maxHeartbeats 2000000 in
theorem rdiv2 {w : World} {Z1 Z2 Z3 Z4 : Zone} {p q : Rat} {s t r : Bool} {l k l' k' m : List Nat} {A B C D : Option Addr} {a b c d g h : Nat} (hs : w.cell? ⟨g, 0, none⟩ = some (.bool s) ∧ w.cell? ⟨g, 1, none⟩ = some (.slice A l.length a) ∧ w.cell? ⟨g, 2, none⟩ = some (.slice B k.length b) ∧ w.cell? ⟨h, 0, none⟩ = some (.bool t) ∧ w.cell? ⟨h, 1, none⟩ = some (.slice C l'.length c) ∧ w.cell? ⟨h, 2, none⟩ = some (.slice D k'.length d)) (hp : NmQ p s l k) (hq : NmQ q t l' k') (hz : Nm ((p.den : Int) * q.num) r m) (q1 : l.length ≤ 20000) (q2 : k.length ≤ 20000) (q3 : l'.length ≤ 20000) (q4 : k'.length ≤ 20000) (u1 : U64s w Z1 A a l) (u2 : U64s w Z2 B b k) (u3 : U64s w Z3 C c l') (u4 : U64s w Z4 D d k') :
    Calls Tryz.prog 45 #[.pointer (some ⟨g, 0, none⟩), .pointer (some ⟨h, 0, none⟩)] w fun e w' => ∃ Av cv, e = .returned (.agg #[.bool r, .slice Av m.length cv]) ∧ U64s w' (new w.heap.size) Av cv m ∧ Below w.heap.size w w' := by
  have hB0 : Below w.heap.size w (w.alloc (.cells #[.bool false, .slice none 0 0] 25)) := (Below.refl _ w).alloc (Nat.le_refl _) _
  have bR := Box.new w (.bool false) (.slice none 0 0) 25
  have hg : g < w.heap.size := lt_of_cell hs.1
  have hh : h < w.heap.size := lt_of_cell hs.2.2.2.1
  have N1 := Lib.hid (show w.heap.size ≠ g by omega)
  have N2 := Lib.hid (show w.heap.size ≠ h by omega)
  replace hs := boxQ_keep hs hB0.drew
  have Hc := Lib.hid hB0.drew
  have HR := Lib.hid (bR.below (Below.refl _ _).drew)
  have Da := Lib.hid (fun (W : World) => rden_n (w := W) (s := s) (l := l) (k := k) (A := A) (B := B) (c := a) (d := b))
  have Db := Lib.hid (fun (W : World) => rden_n (w := W) (s := t) (l := l') (k := k') (A := C) (B := D) (c := c) (d := d))
  have P0 := Lib.hid (fun (W : World) (hW : Below w.heap.size w W) => rprod_n hp.den hq.num hz rfl (by omega) (by omega) (u2.below hW) (u3.below hW))
  clear bR hB0 hg hh hp hq hz q1 q2 q3 q4 u1 u2 u3 u4
  go_enter Tryz.func45, Tryz.ntmps45
  go_wp2
  go_region_held3 (fun w' => w'.cell? ⟨g, 0, none⟩ = some (.bool s) ∧ w'.cell? ⟨g, 1, none⟩ = some (.slice A l.length a) ∧ w'.cell? ⟨g, 2, none⟩ = some (.slice B k.length b) ∧ w'.cell? ⟨h, 0, none⟩ = some (.bool t) ∧ w'.cell? ⟨h, 1, none⟩ = some (.slice C l'.length c) ∧ w'.cell? ⟨h, 2, none⟩ = some (.slice D k'.length d))
    (first
      | with_reducible exact hs
      | with_reducible exact boxQ_st2 N1.out N2.out hs)
    (first
      | (go_at_call 38; with_reducible refine (Da.out _).mono ?_; rintro e w' ⟨rfl, hc⟩; replace hs := boxQ_keep hs hc; replace HR := Lib.hid (HR.out.below hc); replace Hc := Lib.hid (from_ Hc.out hc))
      | (go_at_call 37; with_reducible refine (P0.out _ Hc.out).mono ?_; rintro e w' ⟨Av, cv, rfl, o9, hc⟩; replace hs := boxQ_keep hs hc; have zl := HR.out.lt; replace HR := Lib.hid (HR.out.below hc); have Hp := Hc; replace Hc := Lib.hid (from_ Hc.out hc); obtain ⟨qq0, qq1, ff0, ff1, _⟩ := id HR.out))
  all_goals
    have HP := Lib.hid (HR.out.put Hc.out (Nat.le_refl _) (.bool r) (.slice Av m.length cv))
    have hiv : IsU _ _ (.slice Av m.length cv) m := ⟨Av, cv, rfl, o9⟩
    have Hu := Lib.hid (HP.out.keep zl hiv)
    clear hiv o9
    go_wp2
    refine bodyPost_ret (res_int rfl _ w.heap.size rfl HP.out.c0 HP.out.c1) rfl ?_
    obtain ⟨A', c', e', h'⟩ := Hu.out
    injection e' with e1 e2 e3
    subst e1 e3
    exact ⟨_, _, rfl, h', HP.out.bel⟩

set_option maxRecDepth 100000 in
set_option maxHeartbeats 2000000 in
theorem rmul1 {w : World} {Z1 Z2 Z3 Z4 : Zone} {p q : Rat} {s t r : Bool} {l k l' k' m : List Nat} {A B C D : Option Addr} {a b c d g h : Nat} (hs : w.cell? ⟨g, 0, none⟩ = some (.bool s) ∧ w.cell? ⟨g, 1, none⟩ = some (.slice A l.length a) ∧ w.cell? ⟨g, 2, none⟩ = some (.slice B k.length b) ∧ w.cell? ⟨h, 0, none⟩ = some (.bool t) ∧ w.cell? ⟨h, 1, none⟩ = some (.slice C l'.length c) ∧ w.cell? ⟨h, 2, none⟩ = some (.slice D k'.length d)) (hp : NmQ p s l k) (hq : NmQ q t l' k') (hz : Nm (p.num * q.num) r m) (q1 : l.length ≤ 20000) (q2 : k.length ≤ 20000) (q3 : l'.length ≤ 20000) (q4 : k'.length ≤ 20000) (u1 : U64s w Z1 A a l) (u2 : U64s w Z2 B b k) (u3 : U64s w Z3 C c l') (u4 : U64s w Z4 D d k') :
    Calls Tryz.prog 40 #[.pointer (some ⟨g, 0, none⟩), .pointer (some ⟨h, 0, none⟩)] w fun e w' => ∃ Av cv, e = .returned (.agg #[.bool r, .slice Av m.length cv]) ∧ U64s w' (new w.heap.size) Av cv m ∧ Below w.heap.size w w' := by
  have hB0 : Below w.heap.size w (w.alloc (.cells #[.bool false, .slice none 0 0] 25)) := (Below.refl _ w).alloc (Nat.le_refl _) _
  have bR := Box.new w (.bool false) (.slice none 0 0) 25
  have hg : g < w.heap.size := lt_of_cell hs.1
  have hh : h < w.heap.size := lt_of_cell hs.2.2.2.1
  have N1 := Lib.hid (show w.heap.size ≠ g by omega)
  have N2 := Lib.hid (show w.heap.size ≠ h by omega)
  replace hs := boxQ_keep hs hB0
  have Hc := Lib.hid hB0
  have HR := Lib.hid bR
  have Da := Lib.hid (fun (W : World) => rden_n (w := W) (s := s) (l := l) (k := k) (A := A) (B := B) (c := a) (d := b))
  have Db := Lib.hid (fun (W : World) => rden_n (w := W) (s := t) (l := l') (k := k') (A := C) (B := D) (c := c) (d := d))
  have P0 := Lib.hid (fun (W : World) (hW : Below w.heap.size w W) => rprod_n hp.num hq.num hz rfl (by omega) (by omega) (u1.below hW) (u3.below hW))
  clear bR hB0 hg hh hp hq hz q1 q2 q3 q4 u1 u2 u3 u4
  go_enter Tryz.func40, Tryz.ntmps40
  obtain ⟨a0, a1, a2, b0, b1, b2⟩ := hs
  go_wp2_with fail
  refine (P0.out _ Hc.out).mono ?_
  rintro e w1 ⟨Av, cv, rfl, o9, hc⟩
  have zl := HR.out.lt
  have HR1 := Lib.hid (HR.out.below hc)
  have Hc1 := Lib.hid (from_ Hc.out hc)
  have HP := Lib.hid (HR1.out.put Hc1.out (Nat.le_refl _) (.bool r) (.slice Av m.length cv))
  have hiv : IsU _ _ (.slice Av m.length cv) m := ⟨Av, cv, rfl, o9⟩
  have Hu := Lib.hid (HP.out.keep zl hiv)
  obtain ⟨q0, q1, f0, f1, _⟩ := id HR1.out
  clear hiv o9
  go_wp2
  refine bodyPost_ret (res_int rfl _ w.heap.size rfl HP.out.c0 HP.out.c1) rfl ?_
  obtain ⟨A', c', e', h'⟩ := Hu.out
  injection e' with e1 e2 e3
  subst e1 e3
  exact ⟨_, _, rfl, h', HP.out.bel⟩

end Go.Proofs.YtbcplffdoejniaaGreatDoor

namespace Go.Proofs.YtbcplffdoejniaaGreatDoor
open Go.RowKit
set_option linter.unusedVariables false
set_option linter.unusedSimpArgs false

theorem boxesQ (w : World) (a0 a1 a2 b0 b1 b2 c0 c1 c2 : Value) :
    Box3 (((w.alloc (.cells #[a0, a1, a2] 28)).alloc (.cells #[b0, b1, b2] 28)).alloc (.cells #[c0, c1, c2] 28)) w.heap.size a0 a1 a2 ∧
    Box3 (((w.alloc (.cells #[a0, a1, a2] 28)).alloc (.cells #[b0, b1, b2] 28)).alloc (.cells #[c0, c1, c2] 28)) (w.heap.size + 1) b0 b1 b2 ∧
    Box3 (((w.alloc (.cells #[a0, a1, a2] 28)).alloc (.cells #[b0, b1, b2] 28)).alloc (.cells #[c0, c1, c2] 28)) (w.heap.size + 2) c0 c1 c2 ∧
    Below w.heap.size w (((w.alloc (.cells #[a0, a1, a2] 28)).alloc (.cells #[b0, b1, b2] 28)).alloc (.cells #[c0, c1, c2] 28)) := by
  have h1 := ((Box3.new w a0 a1 a2 28).alloc (.cells #[b0, b1, b2] 28)).alloc (.cells #[c0, c1, c2] 28)
  have h2 := (Box3.new (w.alloc (.cells #[a0, a1, a2] 28)) b0 b1 b2 28).alloc (.cells #[c0, c1, c2] 28)
  have h3 := Box3.new ((w.alloc (.cells #[a0, a1, a2] 28)).alloc (.cells #[b0, b1, b2] 28)) c0 c1 c2 28
  rw [show (w.alloc (.cells #[a0, a1, a2] 28)).heap.size = w.heap.size + 1 by simp] at h2
  rw [show ((w.alloc (.cells #[a0, a1, a2] 28)).alloc (.cells #[b0, b1, b2] 28)).heap.size = w.heap.size + 2 by simp] at h3
  exact ⟨h1, h2, h3, (((Below.refl _ w).alloc (Nat.le_refl _) _).alloc (by simp) _).alloc (by simp; omega) _⟩

theorem errFs_two (p q : Fr) : errFs [p, q] = if p.ok = true ∧ q.ok = true then 0 else 8 := by
  unfold errFs
  simp only [List.all_cons, List.all_nil, Bool.and_true, Bool.and_eq_true]

theorem joinedHead {w : World} {Z1 Z2 Z3 Z4 : Zone} {s t : Bool} {l k l' k' : List Nat} {A B C D : Option Addr} {a b c d : Nat} (u1 : U64s w Z1 A a l) (u2 : U64s w Z2 B b k) (u3 : U64s w Z3 C c l') (u4 : U64s w Z4 D d k') (q1 : l.length ≤ 2000) (q2 : k.length ≤ 2000) (q3 : l'.length ≤ 2000) (q4 : k'.length ≤ 2000) {E : Int} (hE : errFs [⟨s, l, k⟩, ⟨t, l', k'⟩] = E) :
    Calls Tryz.prog 42 #[.func (.func 11) #[] #[], .slice (some ⟨w.heap.size + 3, 0, none⟩) 2 2] ((((w.alloc (.cells #[.bool s, .slice A l.length a, .slice B k.length b] 28)).alloc (.cells #[.bool t, .slice C l'.length c, .slice D k'.length d] 28)).alloc (.cells #[.bool false, .slice none 0 0, .slice none 0 0] 28)).alloc (.cells #[.bool s, .slice A l.length a, .slice B k.length b, .bool t, .slice C l'.length c, .slice D k'.length d] 28)) (fun e w' => e = .returned (.int .i64 E) ∧ Below ((((w.alloc (.cells #[.bool s, .slice A l.length a, .slice B k.length b] 28)).alloc (.cells #[.bool t, .slice C l'.length c, .slice D k'.length d] 28)).alloc (.cells #[.bool false, .slice none 0 0, .slice none 0 0] 28)).alloc (.cells #[.bool s, .slice A l.length a, .slice B k.length b, .bool t, .slice C l'.length c, .slice D k'.length d] 28)).heap.size ((((w.alloc (.cells #[.bool s, .slice A l.length a, .slice B k.length b] 28)).alloc (.cells #[.bool t, .slice C l'.length c, .slice D k'.length d] 28)).alloc (.cells #[.bool false, .slice none 0 0, .slice none 0 0] 28)).alloc (.cells #[.bool s, .slice A l.length a, .slice B k.length b, .bool t, .slice C l'.length c, .slice D k'.length d] 28)) w') := by
  obtain ⟨_, _, _, hB0⟩ := boxesQ w (.bool s) (.slice A l.length a) (.slice B k.length b) (.bool t) (.slice C l'.length c) (.slice D k'.length d) (.bool false) (.slice none 0 0) (.slice none 0 0)
  have hg := given_twoQ (s := s) (t := t) (ty := 28) (u1.below hB0) (u2.below hB0) (u3.below hB0) (u4.below hB0) (by omega) (by omega) (by omega) (by omega)
  have hck := ratcheckedQ_any (n := 2) (c := 2) hg rfl (by simp)
  rw [hE] at hck
  rw [show (((w.alloc (.cells #[.bool s, .slice A l.length a, .slice B k.length b] 28)).alloc (.cells #[.bool t, .slice C l'.length c, .slice D k'.length d] 28)).alloc (.cells #[.bool false, .slice none 0 0, .slice none 0 0] 28)).heap.size = w.heap.size + 3 by simp] at hck
  exact hck

set_option maxRecDepth 100000 in
set_option maxHeartbeats 2000000 in
theorem rjoin_Add {w : World} {Z1 Z2 Z3 Z4 : Zone} {s t : Bool} {l k l' k' : List Nat} {A B C D : Option Addr} {a b c d : Nat} {g0 h0 : Nat} {r1 r2 r : Bool} {m1 m2 la ld : List Nat} {E : Int} (u1 : U64s w Z1 A a l) (u2 : U64s w Z2 B b k) (u3 : U64s w Z3 C c l') (u4 : U64s w Z4 D d k') (q1 : l.length ≤ 2000) (q2 : k.length ≤ 2000) (q3 : l'.length ≤ 2000) (q4 : k'.length ≤ 2000) (o1 : okQ s l k = true) (o2 : okQ t l' k' = true)
    (HN : Hid (∀ W, Below w.heap.size w W → Calls Tryz.prog 35 #[.pointer (some ⟨g0, 0, none⟩), .pointer (some ⟨h0, 0, none⟩)] W fun e w' => ∃ Av cv, e = .returned (.agg #[.bool r1, .slice Av m1.length cv]) ∧ U64s w' (new W.heap.size) Av cv m1 ∧ Below W.heap.size W w'))
    (HD : Hid (∀ W, Below w.heap.size w W → Calls Tryz.prog 39 #[.pointer (some ⟨g0, 0, none⟩), .pointer (some ⟨h0, 0, none⟩)] W fun e w' => ∃ Av cv, e = .returned (.agg #[.bool r2, .slice Av m2.length cv]) ∧ U64s w' (new W.heap.size) Av cv m2 ∧ Below W.heap.size W w'))
    (HO : Hid (∀ W Y1 Y2 A1 c1 A2 c2, U64s W Y1 A1 c1 m1 → U64s W Y2 A2 c2 m2 → Calls Tryz.prog 8 #[.agg #[.bool r1, .slice A1 m1.length c1], .agg #[.bool r2, .slice A2 m2.length c2]] W fun e w' => ∃ An cn Ad cd, e = .returned (.tuple #[.agg #[.bool r, .slice An la.length cn, .slice Ad ld.length cd], .int .i64 E]) ∧ U64s w' (new W.heap.size) An cn la ∧ U64s w' (new W.heap.size) Ad cd ld ∧ Below W.heap.size W w')) :
    Calls Tryz.prog 34 #[.agg #[.bool s, .slice A l.length a, .slice B k.length b], .agg #[.bool t, .slice C l'.length c, .slice D k'.length d], .func (.func 35) #[] #[.pointer (some ⟨g0, 0, none⟩), .pointer (some ⟨h0, 0, none⟩)], .func (.func 39) #[] #[.pointer (some ⟨g0, 0, none⟩), .pointer (some ⟨h0, 0, none⟩)]] w fun e w' => ∃ An cn Ad cd, e = .returned (.tuple #[.agg #[.bool r, .slice An la.length cn, .slice Ad ld.length cd], .int .i64 E]) ∧ U64s w' (new w.heap.size) An cn la ∧ U64s w' (new w.heap.size) Ad cd ld ∧ Below w.heap.size w w' := by
  obtain ⟨bA, bB, bR, hB0⟩ := boxesQ w (.bool s) (.slice A l.length a) (.slice B k.length b) (.bool t) (.slice C l'.length c) (.slice D k'.length d) (.bool false) (.slice none 0 0) (.slice none 0 0)
  have Hck := Lib.hid (joinedHead u1 u2 u3 u4 q1 q2 q3 q4 (E := 0) (by rw [errFs_two]; exact if_pos ⟨o1, o2⟩))
  have hal : Below (((w.alloc (.cells #[.bool s, .slice A l.length a, .slice B k.length b] 28)).alloc (.cells #[.bool t, .slice C l'.length c, .slice D k'.length d] 28)).alloc (.cells #[.bool false, .slice none 0 0, .slice none 0 0] 28)).heap.size (((w.alloc (.cells #[.bool s, .slice A l.length a, .slice B k.length b] 28)).alloc (.cells #[.bool t, .slice C l'.length c, .slice D k'.length d] 28)).alloc (.cells #[.bool false, .slice none 0 0, .slice none 0 0] 28)) ((((w.alloc (.cells #[.bool s, .slice A l.length a, .slice B k.length b] 28)).alloc (.cells #[.bool t, .slice C l'.length c, .slice D k'.length d] 28)).alloc (.cells #[.bool false, .slice none 0 0, .slice none 0 0] 28)).alloc (.cells #[.bool s, .slice A l.length a, .slice B k.length b, .bool t, .slice C l'.length c, .slice D k'.length d] 28)) := (Below.refl _ _).alloc (Nat.le_refl _) _
  have HB1 := Lib.hid (from_ hB0 hal)
  have BR1 := Lib.hid (bR.below hal)
  obtain ⟨a0, a1, a2, _, _, _, _⟩ := bA
  obtain ⟨b0, b1, b2, _, _, _, _⟩ := bB
  clear u1 u2 u3 u4 q1 q2 q3 q4 o1 o2 hal hB0 bR
  generalize l.length = L1 at *
  generalize k.length = L2 at *
  generalize l'.length = L3 at *
  generalize k'.length = L4 at *
  go_enter Tryz.func34, Tryz.ntmps34
  go_wp2_with fail
  refine Hck.out.mono ?_
  rintro e w1 ⟨rfl, hc1⟩
  have HB2 := Lib.hid (from_ HB1.out hc1)
  have BR2 := Lib.hid (BR1.out.below hc1)
  clear a0 a1 a2 b0 b1 b2
  go_wp2_with fail
  refine (HN.out _ HB2.out).mono ?_
  rintro e w2 ⟨A1, c1, rfl, v1, hc2⟩
  have HB3 := Lib.hid (from_ HB2.out hc2)
  have BR3 := Lib.hid (BR2.out.below hc2)
  go_wp2_with fail
  refine (HD.out _ HB3.out).mono ?_
  rintro e w3 ⟨A2, c2, rfl, v2, hc3⟩
  have HB4 := Lib.hid (from_ HB3.out hc3)
  have BR4 := Lib.hid (BR3.out.below hc3)
  have v1' := v1.below hc3
  go_wp2_with fail
  refine (HO.out _ _ _ _ _ _ _ v1' v2).mono ?_
  rintro e w4 ⟨An, cn, Ad, cd, rfl, v3, v4, hc4⟩
  have HB5 := Lib.hid (from_ HB4.out hc4)
  have BR5 := Lib.hid (BR4.out.below hc4)
  have hz4 := BR4.out.lt
  have hP := BR5.out.put HB5.out (by omega) (.bool r) (.slice An la.length cn) (.slice Ad ld.length cd)
  have hn5 := hP.keep (fun (h : w3.heap.size ≤ w.heap.size + 2) => by omega) v3
  have hd5 := hP.keep (fun (h : w3.heap.size ≤ w.heap.size + 2) => by omega) v4
  have HN5 := Lib.hid (hn5.mono (Y := new w.heap.size) (new_le HB4.out.size))
  have HD5 := Lib.hid (hd5.mono (Y := new w.heap.size) (new_le HB4.out.size))
  have HP := Lib.hid hP
  obtain ⟨qq0, qq1, qq2, ff0, ff1, ff2, _⟩ := (show Box3 w4 (w.heap.size + 1 + 1) _ _ _ from BR5.out)
  clear hP hn5 hd5 v1 v2 v3 v4 v1'
  go_wp2
  refine bodyPost_ret (res_rat2 rfl _ (w.heap.size + 2) rfl HP.out.c0 HP.out.c1 HP.out.c2) rfl ?_
  exact ⟨_, _, _, _, rfl, HN5.out, HD5.out, HP.out.bel⟩

set_option maxRecDepth 100000 in
set_option maxHeartbeats 2000000 in
theorem radd_at {w : World} {Z1 Z2 Z3 Z4 : Zone} {s t : Bool} {l k l' k' : List Nat} {A B C D : Option Addr} {a b c d : Nat} {r1 r2 r : Bool} {m1 m2 la ld : List Nat} {E : Int} (u1 : U64s w Z1 A a l) (u2 : U64s w Z2 B b k) (u3 : U64s w Z3 C c l') (u4 : U64s w Z4 D d k') (q1 : l.length ≤ 2000) (q2 : k.length ≤ 2000) (q3 : l'.length ≤ 2000) (q4 : k'.length ≤ 2000) (o1 : okQ s l k = true) (o2 : okQ t l' k' = true)
    (HN : Hid (∀ W, Below w.heap.size w W → (W.cell? ⟨w.heap.size, 0, none⟩ = some (.bool s) ∧ W.cell? ⟨w.heap.size, 1, none⟩ = some (.slice A l.length a) ∧ W.cell? ⟨w.heap.size, 2, none⟩ = some (.slice B k.length b) ∧ W.cell? ⟨(w.heap.size + 1), 0, none⟩ = some (.bool t) ∧ W.cell? ⟨(w.heap.size + 1), 1, none⟩ = some (.slice C l'.length c) ∧ W.cell? ⟨(w.heap.size + 1), 2, none⟩ = some (.slice D k'.length d)) → Calls Tryz.prog 35 #[.pointer (some ⟨w.heap.size, 0, none⟩), .pointer (some ⟨w.heap.size + 1, 0, none⟩)] W fun e w' => ∃ Av cv, e = .returned (.agg #[.bool r1, .slice Av m1.length cv]) ∧ U64s w' (new W.heap.size) Av cv m1 ∧ Below W.heap.size W w'))
    (HD : Hid (∀ W, Below w.heap.size w W → (W.cell? ⟨w.heap.size, 0, none⟩ = some (.bool s) ∧ W.cell? ⟨w.heap.size, 1, none⟩ = some (.slice A l.length a) ∧ W.cell? ⟨w.heap.size, 2, none⟩ = some (.slice B k.length b) ∧ W.cell? ⟨(w.heap.size + 1), 0, none⟩ = some (.bool t) ∧ W.cell? ⟨(w.heap.size + 1), 1, none⟩ = some (.slice C l'.length c) ∧ W.cell? ⟨(w.heap.size + 1), 2, none⟩ = some (.slice D k'.length d)) → Calls Tryz.prog 39 #[.pointer (some ⟨w.heap.size, 0, none⟩), .pointer (some ⟨w.heap.size + 1, 0, none⟩)] W fun e w' => ∃ Av cv, e = .returned (.agg #[.bool r2, .slice Av m2.length cv]) ∧ U64s w' (new W.heap.size) Av cv m2 ∧ Below W.heap.size W w'))
    (HO : Hid (∀ W Y1 Y2 A1 c1 A2 c2, U64s W Y1 A1 c1 m1 → U64s W Y2 A2 c2 m2 → Calls Tryz.prog 8 #[.agg #[.bool r1, .slice A1 m1.length c1], .agg #[.bool r2, .slice A2 m2.length c2]] W fun e w' => ∃ An cn Ad cd, e = .returned (.tuple #[.agg #[.bool r, .slice An la.length cn, .slice Ad ld.length cd], .int .i64 E]) ∧ U64s w' (new W.heap.size) An cn la ∧ U64s w' (new W.heap.size) Ad cd ld ∧ Below W.heap.size W w')) :
    Calls Tryz.prog 13 #[.agg #[.bool s, .slice A l.length a, .slice B k.length b], .agg #[.bool t, .slice C l'.length c, .slice D k'.length d]] w fun e w' => ∃ An cn Ad cd, e = .returned (.tuple #[.agg #[.bool r, .slice An la.length cn, .slice Ad ld.length cd], .int .i64 E]) ∧ U64s w' (new w.heap.size) An cn la ∧ U64s w' (new w.heap.size) Ad cd ld ∧ Below w.heap.size w w' := by
  obtain ⟨bA, bB, bR, hB0⟩ := boxesQ w (.bool s) (.slice A l.length a) (.slice B k.length b) (.bool t) (.slice C l'.length c) (.slice D k'.length d) (.bool false) (.slice none 0 0) (.slice none 0 0)
  have hs : (((w.alloc (.cells #[.bool s, .slice A l.length a, .slice B k.length b] 28)).alloc (.cells #[.bool t, .slice C l'.length c, .slice D k'.length d] 28)).alloc (.cells #[.bool false, .slice none 0 0, .slice none 0 0] 28)).cell? ⟨w.heap.size, 0, none⟩ = some (.bool s) ∧ (((w.alloc (.cells #[.bool s, .slice A l.length a, .slice B k.length b] 28)).alloc (.cells #[.bool t, .slice C l'.length c, .slice D k'.length d] 28)).alloc (.cells #[.bool false, .slice none 0 0, .slice none 0 0] 28)).cell? ⟨w.heap.size, 1, none⟩ = some (.slice A l.length a) ∧ (((w.alloc (.cells #[.bool s, .slice A l.length a, .slice B k.length b] 28)).alloc (.cells #[.bool t, .slice C l'.length c, .slice D k'.length d] 28)).alloc (.cells #[.bool false, .slice none 0 0, .slice none 0 0] 28)).cell? ⟨w.heap.size, 2, none⟩ = some (.slice B k.length b) ∧ (((w.alloc (.cells #[.bool s, .slice A l.length a, .slice B k.length b] 28)).alloc (.cells #[.bool t, .slice C l'.length c, .slice D k'.length d] 28)).alloc (.cells #[.bool false, .slice none 0 0, .slice none 0 0] 28)).cell? ⟨(w.heap.size + 1), 0, none⟩ = some (.bool t) ∧ (((w.alloc (.cells #[.bool s, .slice A l.length a, .slice B k.length b] 28)).alloc (.cells #[.bool t, .slice C l'.length c, .slice D k'.length d] 28)).alloc (.cells #[.bool false, .slice none 0 0, .slice none 0 0] 28)).cell? ⟨(w.heap.size + 1), 1, none⟩ = some (.slice C l'.length c) ∧ (((w.alloc (.cells #[.bool s, .slice A l.length a, .slice B k.length b] 28)).alloc (.cells #[.bool t, .slice C l'.length c, .slice D k'.length d] 28)).alloc (.cells #[.bool false, .slice none 0 0, .slice none 0 0] 28)).cell? ⟨(w.heap.size + 1), 2, none⟩ = some (.slice D k'.length d) := ⟨bA.c0, bA.c1, bA.c2, bB.c0, bB.c1, bB.c2⟩
  have hj := rjoin_Add (w := (((w.alloc (.cells #[.bool s, .slice A l.length a, .slice B k.length b] 28)).alloc (.cells #[.bool t, .slice C l'.length c, .slice D k'.length d] 28)).alloc (.cells #[.bool false, .slice none 0 0, .slice none 0 0] 28))) (g0 := w.heap.size) (h0 := w.heap.size + 1) (u1.below hB0) (u2.below hB0) (u3.below hB0) (u4.below hB0) q1 q2 q3 q4 o1 o2
    (Lib.hid fun W hW => HN.out W (from_ hB0 hW) (boxQ_keep hs hW)) (Lib.hid fun W hW => HD.out W (from_ hB0 hW) (boxQ_keep hs hW)) HO
  have Hj := Lib.hid hj
  have HB0 := Lib.hid hB0
  have BR0 := Lib.hid bR
  obtain ⟨a0, a1, a2, _, _, _, _⟩ := bA
  obtain ⟨b0, b1, b2, _, _, _, _⟩ := bB
  clear u1 u2 u3 u4 q1 q2 q3 q4 o1 o2 hs hj hB0 bR HN HD HO
  generalize l.length = L1 at *
  generalize k.length = L2 at *
  generalize l'.length = L3 at *
  generalize k'.length = L4 at *
  go_enter Tryz.func13, Tryz.ntmps13
  go_wp2_with fail
  refine Hj.out.mono ?_
  rintro e w4 ⟨An, cn, Ad, cd, rfl, v3, v4, hc4⟩
  have HB5 := Lib.hid (from_ HB0.out hc4)
  have BR5 := Lib.hid (BR0.out.below hc4)
  have hz4 := BR0.out.lt
  have hP := BR5.out.put HB5.out (by omega) (.bool r) (.slice An la.length cn) (.slice Ad ld.length cd)
  have hn5 := hP.keep (fun (h : _ ≤ w.heap.size + 2) => by simp at h hz4; omega) v3
  have hd5 := hP.keep (fun (h : _ ≤ w.heap.size + 2) => by simp at h hz4; omega) v4
  have HN5 := Lib.hid (hn5.mono (Y := new w.heap.size) (new_le HB0.out.size))
  have HD5 := Lib.hid (hd5.mono (Y := new w.heap.size) (new_le HB0.out.size))
  have HP := Lib.hid hP
  obtain ⟨qq0, qq1, qq2, ff0, ff1, ff2, _⟩ := (show Box3 w4 (w.heap.size + 1 + 1) _ _ _ from BR5.out)
  clear hP hn5 hd5 v3 v4 a0 a1 a2 b0 b1 b2
  go_wp2
  refine bodyPost_ret (res_rat2 rfl _ (w.heap.size + 2) rfl HP.out.c0 HP.out.c1 HP.out.c2) rfl ?_
  exact ⟨_, _, _, _, rfl, HN5.out, HD5.out, HP.out.bel⟩

set_option maxRecDepth 100000 in
set_option maxHeartbeats 2000000 in
theorem rjoin_Mul {w : World} {Z1 Z2 Z3 Z4 : Zone} {s t : Bool} {l k l' k' : List Nat} {A B C D : Option Addr} {a b c d : Nat} {g0 h0 : Nat} {r1 r2 r : Bool} {m1 m2 la ld : List Nat} {E : Int} (u1 : U64s w Z1 A a l) (u2 : U64s w Z2 B b k) (u3 : U64s w Z3 C c l') (u4 : U64s w Z4 D d k') (q1 : l.length ≤ 2000) (q2 : k.length ≤ 2000) (q3 : l'.length ≤ 2000) (q4 : k'.length ≤ 2000) (o1 : okQ s l k = true) (o2 : okQ t l' k' = true)
    (HN : Hid (∀ W, Below w.heap.size w W → Calls Tryz.prog 40 #[.pointer (some ⟨g0, 0, none⟩), .pointer (some ⟨h0, 0, none⟩)] W fun e w' => ∃ Av cv, e = .returned (.agg #[.bool r1, .slice Av m1.length cv]) ∧ U64s w' (new W.heap.size) Av cv m1 ∧ Below W.heap.size W w'))
    (HD : Hid (∀ W, Below w.heap.size w W → Calls Tryz.prog 41 #[.pointer (some ⟨g0, 0, none⟩), .pointer (some ⟨h0, 0, none⟩)] W fun e w' => ∃ Av cv, e = .returned (.agg #[.bool r2, .slice Av m2.length cv]) ∧ U64s w' (new W.heap.size) Av cv m2 ∧ Below W.heap.size W w'))
    (HO : Hid (∀ W Y1 Y2 A1 c1 A2 c2, U64s W Y1 A1 c1 m1 → U64s W Y2 A2 c2 m2 → Calls Tryz.prog 8 #[.agg #[.bool r1, .slice A1 m1.length c1], .agg #[.bool r2, .slice A2 m2.length c2]] W fun e w' => ∃ An cn Ad cd, e = .returned (.tuple #[.agg #[.bool r, .slice An la.length cn, .slice Ad ld.length cd], .int .i64 E]) ∧ U64s w' (new W.heap.size) An cn la ∧ U64s w' (new W.heap.size) Ad cd ld ∧ Below W.heap.size W w')) :
    Calls Tryz.prog 34 #[.agg #[.bool s, .slice A l.length a, .slice B k.length b], .agg #[.bool t, .slice C l'.length c, .slice D k'.length d], .func (.func 40) #[] #[.pointer (some ⟨g0, 0, none⟩), .pointer (some ⟨h0, 0, none⟩)], .func (.func 41) #[] #[.pointer (some ⟨g0, 0, none⟩), .pointer (some ⟨h0, 0, none⟩)]] w fun e w' => ∃ An cn Ad cd, e = .returned (.tuple #[.agg #[.bool r, .slice An la.length cn, .slice Ad ld.length cd], .int .i64 E]) ∧ U64s w' (new w.heap.size) An cn la ∧ U64s w' (new w.heap.size) Ad cd ld ∧ Below w.heap.size w w' := by
  obtain ⟨bA, bB, bR, hB0⟩ := boxesQ w (.bool s) (.slice A l.length a) (.slice B k.length b) (.bool t) (.slice C l'.length c) (.slice D k'.length d) (.bool false) (.slice none 0 0) (.slice none 0 0)
  have Hck := Lib.hid (joinedHead u1 u2 u3 u4 q1 q2 q3 q4 (E := 0) (by rw [errFs_two]; exact if_pos ⟨o1, o2⟩))
  have hal : Below (((w.alloc (.cells #[.bool s, .slice A l.length a, .slice B k.length b] 28)).alloc (.cells #[.bool t, .slice C l'.length c, .slice D k'.length d] 28)).alloc (.cells #[.bool false, .slice none 0 0, .slice none 0 0] 28)).heap.size (((w.alloc (.cells #[.bool s, .slice A l.length a, .slice B k.length b] 28)).alloc (.cells #[.bool t, .slice C l'.length c, .slice D k'.length d] 28)).alloc (.cells #[.bool false, .slice none 0 0, .slice none 0 0] 28)) ((((w.alloc (.cells #[.bool s, .slice A l.length a, .slice B k.length b] 28)).alloc (.cells #[.bool t, .slice C l'.length c, .slice D k'.length d] 28)).alloc (.cells #[.bool false, .slice none 0 0, .slice none 0 0] 28)).alloc (.cells #[.bool s, .slice A l.length a, .slice B k.length b, .bool t, .slice C l'.length c, .slice D k'.length d] 28)) := (Below.refl _ _).alloc (Nat.le_refl _) _
  have HB1 := Lib.hid (from_ hB0 hal)
  have BR1 := Lib.hid (bR.below hal)
  obtain ⟨a0, a1, a2, _, _, _, _⟩ := bA
  obtain ⟨b0, b1, b2, _, _, _, _⟩ := bB
  clear u1 u2 u3 u4 q1 q2 q3 q4 o1 o2 hal hB0 bR
  generalize l.length = L1 at *
  generalize k.length = L2 at *
  generalize l'.length = L3 at *
  generalize k'.length = L4 at *
  go_enter Tryz.func34, Tryz.ntmps34
  go_wp2_with fail
  refine Hck.out.mono ?_
  rintro e w1 ⟨rfl, hc1⟩
  have HB2 := Lib.hid (from_ HB1.out hc1)
  have BR2 := Lib.hid (BR1.out.below hc1)
  clear a0 a1 a2 b0 b1 b2
  go_wp2_with fail
  refine (HN.out _ HB2.out).mono ?_
  rintro e w2 ⟨A1, c1, rfl, v1, hc2⟩
  have HB3 := Lib.hid (from_ HB2.out hc2)
  have BR3 := Lib.hid (BR2.out.below hc2)
  go_wp2_with fail
  refine (HD.out _ HB3.out).mono ?_
  rintro e w3 ⟨A2, c2, rfl, v2, hc3⟩
  have HB4 := Lib.hid (from_ HB3.out hc3)
  have BR4 := Lib.hid (BR3.out.below hc3)
  have v1' := v1.below hc3
  go_wp2_with fail
  refine (HO.out _ _ _ _ _ _ _ v1' v2).mono ?_
  rintro e w4 ⟨An, cn, Ad, cd, rfl, v3, v4, hc4⟩
  have HB5 := Lib.hid (from_ HB4.out hc4)
  have BR5 := Lib.hid (BR4.out.below hc4)
  have hz4 := BR4.out.lt
  have hP := BR5.out.put HB5.out (by omega) (.bool r) (.slice An la.length cn) (.slice Ad ld.length cd)
  have hn5 := hP.keep (fun (h : w3.heap.size ≤ w.heap.size + 2) => by omega) v3
  have hd5 := hP.keep (fun (h : w3.heap.size ≤ w.heap.size + 2) => by omega) v4
  have HN5 := Lib.hid (hn5.mono (Y := new w.heap.size) (new_le HB4.out.size))
  have HD5 := Lib.hid (hd5.mono (Y := new w.heap.size) (new_le HB4.out.size))
  have HP := Lib.hid hP
  obtain ⟨qq0, qq1, qq2, ff0, ff1, ff2, _⟩ := (show Box3 w4 (w.heap.size + 1 + 1) _ _ _ from BR5.out)
  clear hP hn5 hd5 v1 v2 v3 v4 v1'
  go_wp2
  refine bodyPost_ret (res_rat2 rfl _ (w.heap.size + 2) rfl HP.out.c0 HP.out.c1 HP.out.c2) rfl ?_
  exact ⟨_, _, _, _, rfl, HN5.out, HD5.out, HP.out.bel⟩

set_option maxRecDepth 100000 in
set_option maxHeartbeats 2000000 in
theorem rmul_at {w : World} {Z1 Z2 Z3 Z4 : Zone} {s t : Bool} {l k l' k' : List Nat} {A B C D : Option Addr} {a b c d : Nat} {r1 r2 r : Bool} {m1 m2 la ld : List Nat} {E : Int} (u1 : U64s w Z1 A a l) (u2 : U64s w Z2 B b k) (u3 : U64s w Z3 C c l') (u4 : U64s w Z4 D d k') (q1 : l.length ≤ 2000) (q2 : k.length ≤ 2000) (q3 : l'.length ≤ 2000) (q4 : k'.length ≤ 2000) (o1 : okQ s l k = true) (o2 : okQ t l' k' = true)
    (HN : Hid (∀ W, Below w.heap.size w W → (W.cell? ⟨w.heap.size, 0, none⟩ = some (.bool s) ∧ W.cell? ⟨w.heap.size, 1, none⟩ = some (.slice A l.length a) ∧ W.cell? ⟨w.heap.size, 2, none⟩ = some (.slice B k.length b) ∧ W.cell? ⟨(w.heap.size + 1), 0, none⟩ = some (.bool t) ∧ W.cell? ⟨(w.heap.size + 1), 1, none⟩ = some (.slice C l'.length c) ∧ W.cell? ⟨(w.heap.size + 1), 2, none⟩ = some (.slice D k'.length d)) → Calls Tryz.prog 40 #[.pointer (some ⟨w.heap.size, 0, none⟩), .pointer (some ⟨w.heap.size + 1, 0, none⟩)] W fun e w' => ∃ Av cv, e = .returned (.agg #[.bool r1, .slice Av m1.length cv]) ∧ U64s w' (new W.heap.size) Av cv m1 ∧ Below W.heap.size W w'))
    (HD : Hid (∀ W, Below w.heap.size w W → (W.cell? ⟨w.heap.size, 0, none⟩ = some (.bool s) ∧ W.cell? ⟨w.heap.size, 1, none⟩ = some (.slice A l.length a) ∧ W.cell? ⟨w.heap.size, 2, none⟩ = some (.slice B k.length b) ∧ W.cell? ⟨(w.heap.size + 1), 0, none⟩ = some (.bool t) ∧ W.cell? ⟨(w.heap.size + 1), 1, none⟩ = some (.slice C l'.length c) ∧ W.cell? ⟨(w.heap.size + 1), 2, none⟩ = some (.slice D k'.length d)) → Calls Tryz.prog 41 #[.pointer (some ⟨w.heap.size, 0, none⟩), .pointer (some ⟨w.heap.size + 1, 0, none⟩)] W fun e w' => ∃ Av cv, e = .returned (.agg #[.bool r2, .slice Av m2.length cv]) ∧ U64s w' (new W.heap.size) Av cv m2 ∧ Below W.heap.size W w'))
    (HO : Hid (∀ W Y1 Y2 A1 c1 A2 c2, U64s W Y1 A1 c1 m1 → U64s W Y2 A2 c2 m2 → Calls Tryz.prog 8 #[.agg #[.bool r1, .slice A1 m1.length c1], .agg #[.bool r2, .slice A2 m2.length c2]] W fun e w' => ∃ An cn Ad cd, e = .returned (.tuple #[.agg #[.bool r, .slice An la.length cn, .slice Ad ld.length cd], .int .i64 E]) ∧ U64s w' (new W.heap.size) An cn la ∧ U64s w' (new W.heap.size) Ad cd ld ∧ Below W.heap.size W w')) :
    Calls Tryz.prog 14 #[.agg #[.bool s, .slice A l.length a, .slice B k.length b], .agg #[.bool t, .slice C l'.length c, .slice D k'.length d]] w fun e w' => ∃ An cn Ad cd, e = .returned (.tuple #[.agg #[.bool r, .slice An la.length cn, .slice Ad ld.length cd], .int .i64 E]) ∧ U64s w' (new w.heap.size) An cn la ∧ U64s w' (new w.heap.size) Ad cd ld ∧ Below w.heap.size w w' := by
  obtain ⟨bA, bB, bR, hB0⟩ := boxesQ w (.bool s) (.slice A l.length a) (.slice B k.length b) (.bool t) (.slice C l'.length c) (.slice D k'.length d) (.bool false) (.slice none 0 0) (.slice none 0 0)
  have hs : (((w.alloc (.cells #[.bool s, .slice A l.length a, .slice B k.length b] 28)).alloc (.cells #[.bool t, .slice C l'.length c, .slice D k'.length d] 28)).alloc (.cells #[.bool false, .slice none 0 0, .slice none 0 0] 28)).cell? ⟨w.heap.size, 0, none⟩ = some (.bool s) ∧ (((w.alloc (.cells #[.bool s, .slice A l.length a, .slice B k.length b] 28)).alloc (.cells #[.bool t, .slice C l'.length c, .slice D k'.length d] 28)).alloc (.cells #[.bool false, .slice none 0 0, .slice none 0 0] 28)).cell? ⟨w.heap.size, 1, none⟩ = some (.slice A l.length a) ∧ (((w.alloc (.cells #[.bool s, .slice A l.length a, .slice B k.length b] 28)).alloc (.cells #[.bool t, .slice C l'.length c, .slice D k'.length d] 28)).alloc (.cells #[.bool false, .slice none 0 0, .slice none 0 0] 28)).cell? ⟨w.heap.size, 2, none⟩ = some (.slice B k.length b) ∧ (((w.alloc (.cells #[.bool s, .slice A l.length a, .slice B k.length b] 28)).alloc (.cells #[.bool t, .slice C l'.length c, .slice D k'.length d] 28)).alloc (.cells #[.bool false, .slice none 0 0, .slice none 0 0] 28)).cell? ⟨(w.heap.size + 1), 0, none⟩ = some (.bool t) ∧ (((w.alloc (.cells #[.bool s, .slice A l.length a, .slice B k.length b] 28)).alloc (.cells #[.bool t, .slice C l'.length c, .slice D k'.length d] 28)).alloc (.cells #[.bool false, .slice none 0 0, .slice none 0 0] 28)).cell? ⟨(w.heap.size + 1), 1, none⟩ = some (.slice C l'.length c) ∧ (((w.alloc (.cells #[.bool s, .slice A l.length a, .slice B k.length b] 28)).alloc (.cells #[.bool t, .slice C l'.length c, .slice D k'.length d] 28)).alloc (.cells #[.bool false, .slice none 0 0, .slice none 0 0] 28)).cell? ⟨(w.heap.size + 1), 2, none⟩ = some (.slice D k'.length d) := ⟨bA.c0, bA.c1, bA.c2, bB.c0, bB.c1, bB.c2⟩
  have hj := rjoin_Mul (w := (((w.alloc (.cells #[.bool s, .slice A l.length a, .slice B k.length b] 28)).alloc (.cells #[.bool t, .slice C l'.length c, .slice D k'.length d] 28)).alloc (.cells #[.bool false, .slice none 0 0, .slice none 0 0] 28))) (g0 := w.heap.size) (h0 := w.heap.size + 1) (u1.below hB0) (u2.below hB0) (u3.below hB0) (u4.below hB0) q1 q2 q3 q4 o1 o2
    (Lib.hid fun W hW => HN.out W (from_ hB0 hW) (boxQ_keep hs hW)) (Lib.hid fun W hW => HD.out W (from_ hB0 hW) (boxQ_keep hs hW)) HO
  have Hj := Lib.hid hj
  have HB0 := Lib.hid hB0
  have BR0 := Lib.hid bR
  obtain ⟨a0, a1, a2, _, _, _, _⟩ := bA
  obtain ⟨b0, b1, b2, _, _, _, _⟩ := bB
  clear u1 u2 u3 u4 q1 q2 q3 q4 o1 o2 hs hj hB0 bR HN HD HO
  generalize l.length = L1 at *
  generalize k.length = L2 at *
  generalize l'.length = L3 at *
  generalize k'.length = L4 at *
  go_enter Tryz.func14, Tryz.ntmps14
  go_wp2_with fail
  refine Hj.out.mono ?_
  rintro e w4 ⟨An, cn, Ad, cd, rfl, v3, v4, hc4⟩
  have HB5 := Lib.hid (from_ HB0.out hc4)
  have BR5 := Lib.hid (BR0.out.below hc4)
  have hz4 := BR0.out.lt
  have hP := BR5.out.put HB5.out (by omega) (.bool r) (.slice An la.length cn) (.slice Ad ld.length cd)
  have hn5 := hP.keep (fun (h : _ ≤ w.heap.size + 2) => by simp at h hz4; omega) v3
  have hd5 := hP.keep (fun (h : _ ≤ w.heap.size + 2) => by simp at h hz4; omega) v4
  have HN5 := Lib.hid (hn5.mono (Y := new w.heap.size) (new_le HB0.out.size))
  have HD5 := Lib.hid (hd5.mono (Y := new w.heap.size) (new_le HB0.out.size))
  have HP := Lib.hid hP
  obtain ⟨qq0, qq1, qq2, ff0, ff1, ff2, _⟩ := (show Box3 w4 (w.heap.size + 1 + 1) _ _ _ from BR5.out)
  clear hP hn5 hd5 v3 v4 a0 a1 a2 b0 b1 b2
  go_wp2
  refine bodyPost_ret (res_rat2 rfl _ (w.heap.size + 2) rfl HP.out.c0 HP.out.c1 HP.out.c2) rfl ?_
  exact ⟨_, _, _, _, rfl, HN5.out, HD5.out, HP.out.bel⟩

set_option maxRecDepth 100000 in
set_option maxHeartbeats 2000000 in
theorem rjoin_Div {w : World} {Z1 Z2 Z3 Z4 : Zone} {s t : Bool} {l k l' k' : List Nat} {A B C D : Option Addr} {a b c d : Nat} {g0 h0 : Nat} {r1 r2 r : Bool} {m1 m2 la ld : List Nat} {E : Int} (u1 : U64s w Z1 A a l) (u2 : U64s w Z2 B b k) (u3 : U64s w Z3 C c l') (u4 : U64s w Z4 D d k') (q1 : l.length ≤ 2000) (q2 : k.length ≤ 2000) (q3 : l'.length ≤ 2000) (q4 : k'.length ≤ 2000) (o1 : okQ s l k = true) (o2 : okQ t l' k' = true)
    (HN : Hid (∀ W, Below w.heap.size w W → Calls Tryz.prog 44 #[.pointer (some ⟨g0, 0, none⟩), .pointer (some ⟨h0, 0, none⟩)] W fun e w' => ∃ Av cv, e = .returned (.agg #[.bool r1, .slice Av m1.length cv]) ∧ U64s w' (new W.heap.size) Av cv m1 ∧ Below W.heap.size W w'))
    (HD : Hid (∀ W, Below w.heap.size w W → Calls Tryz.prog 45 #[.pointer (some ⟨g0, 0, none⟩), .pointer (some ⟨h0, 0, none⟩)] W fun e w' => ∃ Av cv, e = .returned (.agg #[.bool r2, .slice Av m2.length cv]) ∧ U64s w' (new W.heap.size) Av cv m2 ∧ Below W.heap.size W w'))
    (HO : Hid (∀ W Y1 Y2 A1 c1 A2 c2, U64s W Y1 A1 c1 m1 → U64s W Y2 A2 c2 m2 → Calls Tryz.prog 8 #[.agg #[.bool r1, .slice A1 m1.length c1], .agg #[.bool r2, .slice A2 m2.length c2]] W fun e w' => ∃ An cn Ad cd, e = .returned (.tuple #[.agg #[.bool r, .slice An la.length cn, .slice Ad ld.length cd], .int .i64 E]) ∧ U64s w' (new W.heap.size) An cn la ∧ U64s w' (new W.heap.size) Ad cd ld ∧ Below W.heap.size W w')) :
    Calls Tryz.prog 34 #[.agg #[.bool s, .slice A l.length a, .slice B k.length b], .agg #[.bool t, .slice C l'.length c, .slice D k'.length d], .func (.func 44) #[] #[.pointer (some ⟨g0, 0, none⟩), .pointer (some ⟨h0, 0, none⟩)], .func (.func 45) #[] #[.pointer (some ⟨g0, 0, none⟩), .pointer (some ⟨h0, 0, none⟩)]] w fun e w' => ∃ An cn Ad cd, e = .returned (.tuple #[.agg #[.bool r, .slice An la.length cn, .slice Ad ld.length cd], .int .i64 E]) ∧ U64s w' (new w.heap.size) An cn la ∧ U64s w' (new w.heap.size) Ad cd ld ∧ Below w.heap.size w w' := by
  obtain ⟨bA, bB, bR, hB0⟩ := boxesQ w (.bool s) (.slice A l.length a) (.slice B k.length b) (.bool t) (.slice C l'.length c) (.slice D k'.length d) (.bool false) (.slice none 0 0) (.slice none 0 0)
  have Hck := Lib.hid (joinedHead u1 u2 u3 u4 q1 q2 q3 q4 (E := 0) (by rw [errFs_two]; exact if_pos ⟨o1, o2⟩))
  have hal : Below (((w.alloc (.cells #[.bool s, .slice A l.length a, .slice B k.length b] 28)).alloc (.cells #[.bool t, .slice C l'.length c, .slice D k'.length d] 28)).alloc (.cells #[.bool false, .slice none 0 0, .slice none 0 0] 28)).heap.size (((w.alloc (.cells #[.bool s, .slice A l.length a, .slice B k.length b] 28)).alloc (.cells #[.bool t, .slice C l'.length c, .slice D k'.length d] 28)).alloc (.cells #[.bool false, .slice none 0 0, .slice none 0 0] 28)) ((((w.alloc (.cells #[.bool s, .slice A l.length a, .slice B k.length b] 28)).alloc (.cells #[.bool t, .slice C l'.length c, .slice D k'.length d] 28)).alloc (.cells #[.bool false, .slice none 0 0, .slice none 0 0] 28)).alloc (.cells #[.bool s, .slice A l.length a, .slice B k.length b, .bool t, .slice C l'.length c, .slice D k'.length d] 28)) := (Below.refl _ _).alloc (Nat.le_refl _) _
  have HB1 := Lib.hid (from_ hB0 hal)
  have BR1 := Lib.hid (bR.below hal)
  obtain ⟨a0, a1, a2, _, _, _, _⟩ := bA
  obtain ⟨b0, b1, b2, _, _, _, _⟩ := bB
  clear u1 u2 u3 u4 q1 q2 q3 q4 o1 o2 hal hB0 bR
  generalize l.length = L1 at *
  generalize k.length = L2 at *
  generalize l'.length = L3 at *
  generalize k'.length = L4 at *
  go_enter Tryz.func34, Tryz.ntmps34
  go_wp2_with fail
  refine Hck.out.mono ?_
  rintro e w1 ⟨rfl, hc1⟩
  have HB2 := Lib.hid (from_ HB1.out hc1)
  have BR2 := Lib.hid (BR1.out.below hc1)
  clear a0 a1 a2 b0 b1 b2
  go_wp2_with fail
  refine (HN.out _ HB2.out).mono ?_
  rintro e w2 ⟨A1, c1, rfl, v1, hc2⟩
  have HB3 := Lib.hid (from_ HB2.out hc2)
  have BR3 := Lib.hid (BR2.out.below hc2)
  go_wp2_with fail
  refine (HD.out _ HB3.out).mono ?_
  rintro e w3 ⟨A2, c2, rfl, v2, hc3⟩
  have HB4 := Lib.hid (from_ HB3.out hc3)
  have BR4 := Lib.hid (BR3.out.below hc3)
  have v1' := v1.below hc3
  go_wp2_with fail
  refine (HO.out _ _ _ _ _ _ _ v1' v2).mono ?_
  rintro e w4 ⟨An, cn, Ad, cd, rfl, v3, v4, hc4⟩
  have HB5 := Lib.hid (from_ HB4.out hc4)
  have BR5 := Lib.hid (BR4.out.below hc4)
  have hz4 := BR4.out.lt
  have hP := BR5.out.put HB5.out (by omega) (.bool r) (.slice An la.length cn) (.slice Ad ld.length cd)
  have hn5 := hP.keep (fun (h : w3.heap.size ≤ w.heap.size + 2) => by omega) v3
  have hd5 := hP.keep (fun (h : w3.heap.size ≤ w.heap.size + 2) => by omega) v4
  have HN5 := Lib.hid (hn5.mono (Y := new w.heap.size) (new_le HB4.out.size))
  have HD5 := Lib.hid (hd5.mono (Y := new w.heap.size) (new_le HB4.out.size))
  have HP := Lib.hid hP
  obtain ⟨qq0, qq1, qq2, ff0, ff1, ff2, _⟩ := (show Box3 w4 (w.heap.size + 1 + 1) _ _ _ from BR5.out)
  clear hP hn5 hd5 v1 v2 v3 v4 v1'
  go_wp2
  refine bodyPost_ret (res_rat2 rfl _ (w.heap.size + 2) rfl HP.out.c0 HP.out.c1 HP.out.c2) rfl ?_
  exact ⟨_, _, _, _, rfl, HN5.out, HD5.out, HP.out.bel⟩

set_option maxRecDepth 100000 in
set_option maxHeartbeats 2000000 in
theorem rdiv_at {w : World} {Z1 Z2 Z3 Z4 : Zone} {s t : Bool} {l k l' k' : List Nat} {A B C D : Option Addr} {a b c d : Nat} {r1 r2 r : Bool} {m1 m2 la ld : List Nat} {E : Int} (u1 : U64s w Z1 A a l) (u2 : U64s w Z2 B b k) (u3 : U64s w Z3 C c l') (u4 : U64s w Z4 D d k') (q1 : l.length ≤ 2000) (q2 : k.length ≤ 2000) (q3 : l'.length ≤ 2000) (q4 : k'.length ≤ 2000) (o1 : okQ s l k = true) (o2 : okQ t l' k' = true)
    (HN : Hid (∀ W, Below w.heap.size w W → (W.cell? ⟨w.heap.size, 0, none⟩ = some (.bool s) ∧ W.cell? ⟨w.heap.size, 1, none⟩ = some (.slice A l.length a) ∧ W.cell? ⟨w.heap.size, 2, none⟩ = some (.slice B k.length b) ∧ W.cell? ⟨(w.heap.size + 1), 0, none⟩ = some (.bool t) ∧ W.cell? ⟨(w.heap.size + 1), 1, none⟩ = some (.slice C l'.length c) ∧ W.cell? ⟨(w.heap.size + 1), 2, none⟩ = some (.slice D k'.length d)) → Calls Tryz.prog 44 #[.pointer (some ⟨w.heap.size, 0, none⟩), .pointer (some ⟨w.heap.size + 1, 0, none⟩)] W fun e w' => ∃ Av cv, e = .returned (.agg #[.bool r1, .slice Av m1.length cv]) ∧ U64s w' (new W.heap.size) Av cv m1 ∧ Below W.heap.size W w'))
    (HD : Hid (∀ W, Below w.heap.size w W → (W.cell? ⟨w.heap.size, 0, none⟩ = some (.bool s) ∧ W.cell? ⟨w.heap.size, 1, none⟩ = some (.slice A l.length a) ∧ W.cell? ⟨w.heap.size, 2, none⟩ = some (.slice B k.length b) ∧ W.cell? ⟨(w.heap.size + 1), 0, none⟩ = some (.bool t) ∧ W.cell? ⟨(w.heap.size + 1), 1, none⟩ = some (.slice C l'.length c) ∧ W.cell? ⟨(w.heap.size + 1), 2, none⟩ = some (.slice D k'.length d)) → Calls Tryz.prog 45 #[.pointer (some ⟨w.heap.size, 0, none⟩), .pointer (some ⟨w.heap.size + 1, 0, none⟩)] W fun e w' => ∃ Av cv, e = .returned (.agg #[.bool r2, .slice Av m2.length cv]) ∧ U64s w' (new W.heap.size) Av cv m2 ∧ Below W.heap.size W w'))
    (HO : Hid (∀ W Y1 Y2 A1 c1 A2 c2, U64s W Y1 A1 c1 m1 → U64s W Y2 A2 c2 m2 → Calls Tryz.prog 8 #[.agg #[.bool r1, .slice A1 m1.length c1], .agg #[.bool r2, .slice A2 m2.length c2]] W fun e w' => ∃ An cn Ad cd, e = .returned (.tuple #[.agg #[.bool r, .slice An la.length cn, .slice Ad ld.length cd], .int .i64 E]) ∧ U64s w' (new W.heap.size) An cn la ∧ U64s w' (new W.heap.size) Ad cd ld ∧ Below W.heap.size W w')) :
    Calls Tryz.prog 16 #[.agg #[.bool s, .slice A l.length a, .slice B k.length b], .agg #[.bool t, .slice C l'.length c, .slice D k'.length d]] w fun e w' => ∃ An cn Ad cd, e = .returned (.tuple #[.agg #[.bool r, .slice An la.length cn, .slice Ad ld.length cd], .int .i64 E]) ∧ U64s w' (new w.heap.size) An cn la ∧ U64s w' (new w.heap.size) Ad cd ld ∧ Below w.heap.size w w' := by
  obtain ⟨bA, bB, bR, hB0⟩ := boxesQ w (.bool s) (.slice A l.length a) (.slice B k.length b) (.bool t) (.slice C l'.length c) (.slice D k'.length d) (.bool false) (.slice none 0 0) (.slice none 0 0)
  have hs : (((w.alloc (.cells #[.bool s, .slice A l.length a, .slice B k.length b] 28)).alloc (.cells #[.bool t, .slice C l'.length c, .slice D k'.length d] 28)).alloc (.cells #[.bool false, .slice none 0 0, .slice none 0 0] 28)).cell? ⟨w.heap.size, 0, none⟩ = some (.bool s) ∧ (((w.alloc (.cells #[.bool s, .slice A l.length a, .slice B k.length b] 28)).alloc (.cells #[.bool t, .slice C l'.length c, .slice D k'.length d] 28)).alloc (.cells #[.bool false, .slice none 0 0, .slice none 0 0] 28)).cell? ⟨w.heap.size, 1, none⟩ = some (.slice A l.length a) ∧ (((w.alloc (.cells #[.bool s, .slice A l.length a, .slice B k.length b] 28)).alloc (.cells #[.bool t, .slice C l'.length c, .slice D k'.length d] 28)).alloc (.cells #[.bool false, .slice none 0 0, .slice none 0 0] 28)).cell? ⟨w.heap.size, 2, none⟩ = some (.slice B k.length b) ∧ (((w.alloc (.cells #[.bool s, .slice A l.length a, .slice B k.length b] 28)).alloc (.cells #[.bool t, .slice C l'.length c, .slice D k'.length d] 28)).alloc (.cells #[.bool false, .slice none 0 0, .slice none 0 0] 28)).cell? ⟨(w.heap.size + 1), 0, none⟩ = some (.bool t) ∧ (((w.alloc (.cells #[.bool s, .slice A l.length a, .slice B k.length b] 28)).alloc (.cells #[.bool t, .slice C l'.length c, .slice D k'.length d] 28)).alloc (.cells #[.bool false, .slice none 0 0, .slice none 0 0] 28)).cell? ⟨(w.heap.size + 1), 1, none⟩ = some (.slice C l'.length c) ∧ (((w.alloc (.cells #[.bool s, .slice A l.length a, .slice B k.length b] 28)).alloc (.cells #[.bool t, .slice C l'.length c, .slice D k'.length d] 28)).alloc (.cells #[.bool false, .slice none 0 0, .slice none 0 0] 28)).cell? ⟨(w.heap.size + 1), 2, none⟩ = some (.slice D k'.length d) := ⟨bA.c0, bA.c1, bA.c2, bB.c0, bB.c1, bB.c2⟩
  have hj := rjoin_Div (w := (((w.alloc (.cells #[.bool s, .slice A l.length a, .slice B k.length b] 28)).alloc (.cells #[.bool t, .slice C l'.length c, .slice D k'.length d] 28)).alloc (.cells #[.bool false, .slice none 0 0, .slice none 0 0] 28))) (g0 := w.heap.size) (h0 := w.heap.size + 1) (u1.below hB0) (u2.below hB0) (u3.below hB0) (u4.below hB0) q1 q2 q3 q4 o1 o2
    (Lib.hid fun W hW => HN.out W (from_ hB0 hW) (boxQ_keep hs hW)) (Lib.hid fun W hW => HD.out W (from_ hB0 hW) (boxQ_keep hs hW)) HO
  have Hj := Lib.hid hj
  have HB0 := Lib.hid hB0
  have BR0 := Lib.hid bR
  obtain ⟨a0, a1, a2, _, _, _, _⟩ := bA
  obtain ⟨b0, b1, b2, _, _, _, _⟩ := bB
  clear u1 u2 u3 u4 q1 q2 q3 q4 o1 o2 hs hj hB0 bR HN HD HO
  generalize l.length = L1 at *
  generalize k.length = L2 at *
  generalize l'.length = L3 at *
  generalize k'.length = L4 at *
  go_enter Tryz.func16, Tryz.ntmps16
  go_wp2_with fail
  refine Hj.out.mono ?_
  rintro e w4 ⟨An, cn, Ad, cd, rfl, v3, v4, hc4⟩
  have HB5 := Lib.hid (from_ HB0.out hc4)
  have BR5 := Lib.hid (BR0.out.below hc4)
  have hz4 := BR0.out.lt
  have hP := BR5.out.put HB5.out (by omega) (.bool r) (.slice An la.length cn) (.slice Ad ld.length cd)
  have hn5 := hP.keep (fun (h : _ ≤ w.heap.size + 2) => by simp at h hz4; omega) v3
  have hd5 := hP.keep (fun (h : _ ≤ w.heap.size + 2) => by simp at h hz4; omega) v4
  have HN5 := Lib.hid (hn5.mono (Y := new w.heap.size) (new_le HB0.out.size))
  have HD5 := Lib.hid (hd5.mono (Y := new w.heap.size) (new_le HB0.out.size))
  have HP := Lib.hid hP
  obtain ⟨qq0, qq1, qq2, ff0, ff1, ff2, _⟩ := (show Box3 w4 (w.heap.size + 1 + 1) _ _ _ from BR5.out)
  clear hP hn5 hd5 v3 v4 a0 a1 a2 b0 b1 b2
  go_wp2
  refine bodyPost_ret (res_rat2 rfl _ (w.heap.size + 2) rfl HP.out.c0 HP.out.c1 HP.out.c2) rfl ?_
  exact ⟨_, _, _, _, rfl, HN5.out, HD5.out, HP.out.bel⟩

end Go.Proofs.YtbcplffdoejniaaGreatDoor

namespace Go.Proofs.YtbcplffdoejniaaGreatDoor
open Go.RowKit
set_option linter.unusedVariables false
set_option linter.unusedSimpArgs false

theorem mk_pos (x : Int) (d : Nat) : Rat.divInt x (d : Int) = mkRat x d := Rat.divInt_ofNat x d
theorem rat_add (p q : Rat) : Rat.divInt (p.num * (q.den : Int) + q.num * (p.den : Int)) ((p.den : Int) * (q.den : Int)) = p + q := by
  rw [Rat.add_def', ← mk_pos, Int.natCast_mul]
theorem rat_mul (p q : Rat) : Rat.divInt (p.num * q.num) ((p.den : Int) * (q.den : Int)) = p * q := by
  rw [Rat.mul_def', ← mk_pos, Int.natCast_mul]
theorem rat_div (p q : Rat) : Rat.divInt (p.num * (q.den : Int)) ((p.den : Int) * q.num) = p / q := by
  rw [Rat.div_def, Rat.inv_def, ← Rat.divInt_mul_divInt, Rat.num_divInt_den]
theorem lens_q {q : Rat} {s : Bool} {l k : List Nat} (h : NmQ q s l k) : l.length = (limbs q.num.natAbs).length ∧ k.length = (limbs q.den).length := by rw [h.2.1, h.2.2]; exact ⟨rfl, rfl⟩
theorem lz_nat (n : Nat) : (limbs (n : Int).natAbs).length = (limbs n).length := by rw [Int.natAbs_natCast]
/-- How long a fraction of two numbers is. -/
theorem divInt_len {x y : Int} (hy : y ≠ 0) : (limbs (Rat.divInt x y).num.natAbs).length ≤ (limbs x.natAbs).length ∧ (limbs (Rat.divInt x y).den).length ≤ (limbs y.natAbs).length := by
  obtain ⟨h1, h2, _⟩ := divInt_parts (x := x) hy
  rw [h1, h2]
  exact ⟨len_div _ _, len_div _ _⟩
theorem add_len (p q : Rat) : (limbs (p + q).num.natAbs).length ≤ max ((limbs p.num.natAbs).length + (limbs q.den).length) ((limbs q.num.natAbs).length + (limbs p.den).length) + 1 ∧ (limbs (p + q).den).length ≤ (limbs p.den).length + (limbs q.den).length := by
  have hp := p.den_nz
  have hq := q.den_nz
  obtain ⟨h1, h2⟩ := divInt_len (x := p.num * (q.den : Int) + q.num * (p.den : Int)) (y := (p.den : Int) * (q.den : Int)) (Int.mul_ne_zero (by omega) (by omega))
  rw [rat_add] at h1 h2
  have e1 := lz_add (p.num * (q.den : Int)) (q.num * (p.den : Int))
  have e2 := lz_mul p.num (q.den : Int)
  have e3 := lz_mul q.num (p.den : Int)
  have e4 := lz_mul (p.den : Int) (q.den : Int)
  have e5 := lz_nat p.den
  have e6 := lz_nat q.den
  omega
theorem mul_len (p q : Rat) : (limbs (p * q).num.natAbs).length ≤ (limbs p.num.natAbs).length + (limbs q.num.natAbs).length ∧ (limbs (p * q).den).length ≤ (limbs p.den).length + (limbs q.den).length := by
  have hp := p.den_nz
  have hq := q.den_nz
  obtain ⟨h1, h2⟩ := divInt_len (x := p.num * q.num) (y := (p.den : Int) * (q.den : Int)) (Int.mul_ne_zero (by omega) (by omega))
  rw [rat_mul] at h1 h2
  have e2 := lz_mul p.num q.num
  have e4 := lz_mul (p.den : Int) (q.den : Int)
  have e5 := lz_nat p.den
  have e6 := lz_nat q.den
  omega
theorem div_len {p q : Rat} (h : q.num ≠ 0) : (limbs (p / q).num.natAbs).length ≤ (limbs p.num.natAbs).length + (limbs q.den).length ∧ (limbs (p / q).den).length ≤ (limbs p.den).length + (limbs q.num.natAbs).length := by
  have hp := p.den_nz
  obtain ⟨h1, h2⟩ := divInt_len (x := p.num * (q.den : Int)) (y := (p.den : Int) * q.num) (Int.mul_ne_zero (by omega) h)
  rw [rat_div] at h1 h2
  have e2 := lz_mul p.num (q.den : Int)
  have e4 := lz_mul (p.den : Int) q.num
  have e5 := lz_nat p.den
  have e6 := lz_nat q.den
  omega

theorem radd_q {w : World} {Z1 Z2 Z3 Z4 : Zone} {s t : Bool} {l k l' k' : List Nat} {A B C D : Option Addr} {a b c d : Nat} {p q z : Rat} {r : Bool} {la ld : List Nat} (hp : NmQ p s l k) (hq : NmQ q t l' k') (hz : NmQ z r la ld) (he : p + q = z) (u1 : U64s w Z1 A a l) (u2 : U64s w Z2 B b k) (u3 : U64s w Z3 C c l') (u4 : U64s w Z4 D d k') (q1 : l.length ≤ 2000) (q2 : k.length ≤ 2000) (q3 : l'.length ≤ 2000) (q4 : k'.length ≤ 2000) :
    Calls Tryz.prog 13 #[.agg #[.bool s, .slice A l.length a, .slice B k.length b], .agg #[.bool t, .slice C l'.length c, .slice D k'.length d]] w fun e w' => ∃ An cn Ad cd, e = .returned (.tuple #[.agg #[.bool r, .slice An la.length cn, .slice Ad ld.length cd], .int .i64 0]) ∧ U64s w' (new w.heap.size) An cn la ∧ U64s w' (new w.heap.size) Ad cd ld ∧ Below w.heap.size w w' := by
  obtain ⟨r1, m1, n1⟩ : ∃ s l, Nm (p.num * (q.den : Int) + q.num * (p.den : Int)) s l := ⟨_, _, Nm.mk' _⟩
  obtain ⟨r2, m2, n2⟩ : ∃ s l, Nm ((p.den : Int) * (q.den : Int)) s l := ⟨_, _, Nm.mk' _⟩
  have f0 := n1.len
  have f1 := n2.len
  have f2 := hp.num.len
  have f3 := hp.den.len
  have f4 := hq.num.len
  have f5 := hq.den.len
  have e0 := lz_mul p.num (q.den : Int)
  have e1 := lz_mul q.num (p.den : Int)
  have e2 := lz_mul (p.den : Int) (q.den : Int)
  have e3 := lz_add (p.num * (q.den : Int)) (q.num * (p.den : Int))
  have e7 := lz_mul p.num q.num
  have e8 := lz_mul (p.den : Int) q.num
  refine radd_at u1 u2 u3 u4 q1 q2 q3 q4 hp.ok hq.ok (r1 := r1) (m1 := m1) (r2 := r2) (m2 := m2)
    (Lib.hid fun W hW hs => radd1 hs hp hq n1 (by omega) (by omega) (by omega) (by omega) (u1.below hW) (u2.below hW) (u3.below hW) (u4.below hW))
    (Lib.hid fun W hW hs => radd2 hs hp hq n2 (by omega) (by omega) (by omega) (by omega) (u1.below hW) (u2.below hW) (u3.below hW) (u4.below hW))
    (Lib.hid fun W Y1 Y2 A1 c1 A2 c2 v1 v2 => ratof_q n1 n2 (Int.mul_ne_zero (by have := p.den_nz; omega) (by have := q.den_nz; omega)) hz (by rw [← he]; exact rat_add p q) (by omega) (by omega) v1 v2)

theorem rmul_q {w : World} {Z1 Z2 Z3 Z4 : Zone} {s t : Bool} {l k l' k' : List Nat} {A B C D : Option Addr} {a b c d : Nat} {p q z : Rat} {r : Bool} {la ld : List Nat} (hp : NmQ p s l k) (hq : NmQ q t l' k') (hz : NmQ z r la ld) (he : p * q = z) (u1 : U64s w Z1 A a l) (u2 : U64s w Z2 B b k) (u3 : U64s w Z3 C c l') (u4 : U64s w Z4 D d k') (q1 : l.length ≤ 2000) (q2 : k.length ≤ 2000) (q3 : l'.length ≤ 2000) (q4 : k'.length ≤ 2000) :
    Calls Tryz.prog 14 #[.agg #[.bool s, .slice A l.length a, .slice B k.length b], .agg #[.bool t, .slice C l'.length c, .slice D k'.length d]] w fun e w' => ∃ An cn Ad cd, e = .returned (.tuple #[.agg #[.bool r, .slice An la.length cn, .slice Ad ld.length cd], .int .i64 0]) ∧ U64s w' (new w.heap.size) An cn la ∧ U64s w' (new w.heap.size) Ad cd ld ∧ Below w.heap.size w w' := by
  obtain ⟨r1, m1, n1⟩ : ∃ s l, Nm (p.num * q.num) s l := ⟨_, _, Nm.mk' _⟩
  obtain ⟨r2, m2, n2⟩ : ∃ s l, Nm ((p.den : Int) * (q.den : Int)) s l := ⟨_, _, Nm.mk' _⟩
  have f0 := n1.len
  have f1 := n2.len
  have f2 := hp.num.len
  have f3 := hp.den.len
  have f4 := hq.num.len
  have f5 := hq.den.len
  have e0 := lz_mul p.num (q.den : Int)
  have e1 := lz_mul q.num (p.den : Int)
  have e2 := lz_mul (p.den : Int) (q.den : Int)
  have e3 := lz_add (p.num * (q.den : Int)) (q.num * (p.den : Int))
  have e7 := lz_mul p.num q.num
  have e8 := lz_mul (p.den : Int) q.num
  refine rmul_at u1 u2 u3 u4 q1 q2 q3 q4 hp.ok hq.ok (r1 := r1) (m1 := m1) (r2 := r2) (m2 := m2)
    (Lib.hid fun W hW hs => rmul1 hs hp hq n1 (by omega) (by omega) (by omega) (by omega) (u1.below hW) (u2.below hW) (u3.below hW) (u4.below hW))
    (Lib.hid fun W hW hs => rmul2 hs hp hq n2 (by omega) (by omega) (by omega) (by omega) (u1.below hW) (u2.below hW) (u3.below hW) (u4.below hW))
    (Lib.hid fun W Y1 Y2 A1 c1 A2 c2 v1 v2 => ratof_q n1 n2 (Int.mul_ne_zero (by have := p.den_nz; omega) (by have := q.den_nz; omega)) hz (by rw [← he]; exact rat_mul p q) (by omega) (by omega) v1 v2)

theorem rdiv_q {w : World} {Z1 Z2 Z3 Z4 : Zone} {s t : Bool} {l k l' k' : List Nat} {A B C D : Option Addr} {a b c d : Nat} {p q z : Rat} {r : Bool} {la ld : List Nat} (hp : NmQ p s l k) (hq : NmQ q t l' k') (hz : NmQ z r la ld) (he : p / q = z) (hq0 : q.num ≠ 0) (u1 : U64s w Z1 A a l) (u2 : U64s w Z2 B b k) (u3 : U64s w Z3 C c l') (u4 : U64s w Z4 D d k') (q1 : l.length ≤ 2000) (q2 : k.length ≤ 2000) (q3 : l'.length ≤ 2000) (q4 : k'.length ≤ 2000) :
    Calls Tryz.prog 16 #[.agg #[.bool s, .slice A l.length a, .slice B k.length b], .agg #[.bool t, .slice C l'.length c, .slice D k'.length d]] w fun e w' => ∃ An cn Ad cd, e = .returned (.tuple #[.agg #[.bool r, .slice An la.length cn, .slice Ad ld.length cd], .int .i64 0]) ∧ U64s w' (new w.heap.size) An cn la ∧ U64s w' (new w.heap.size) Ad cd ld ∧ Below w.heap.size w w' := by
  obtain ⟨r1, m1, n1⟩ : ∃ s l, Nm (p.num * (q.den : Int)) s l := ⟨_, _, Nm.mk' _⟩
  obtain ⟨r2, m2, n2⟩ : ∃ s l, Nm ((p.den : Int) * q.num) s l := ⟨_, _, Nm.mk' _⟩
  have f0 := n1.len
  have f1 := n2.len
  have f2 := hp.num.len
  have f3 := hp.den.len
  have f4 := hq.num.len
  have f5 := hq.den.len
  have e0 := lz_mul p.num (q.den : Int)
  have e1 := lz_mul q.num (p.den : Int)
  have e2 := lz_mul (p.den : Int) (q.den : Int)
  have e3 := lz_add (p.num * (q.den : Int)) (q.num * (p.den : Int))
  have e7 := lz_mul p.num q.num
  have e8 := lz_mul (p.den : Int) q.num
  refine rdiv_at u1 u2 u3 u4 q1 q2 q3 q4 hp.ok hq.ok (r1 := r1) (m1 := m1) (r2 := r2) (m2 := m2)
    (Lib.hid fun W hW hs => rdiv1 hs hp hq n1 (by omega) (by omega) (by omega) (by omega) (u1.below hW) (u2.below hW) (u3.below hW) (u4.below hW))
    (Lib.hid fun W hW hs => rdiv2 hs hp hq n2 (by omega) (by omega) (by omega) (by omega) (u1.below hW) (u2.below hW) (u3.below hW) (u4.below hW))
    (Lib.hid fun W Y1 Y2 A1 c1 A2 c2 v1 v2 => ratof_q n1 n2 (Int.mul_ne_zero (by have := p.den_nz; omega) hq0) hz (by rw [← he]; exact rat_div p q) (by omega) (by omega) v1 v2)

end Go.Proofs.YtbcplffdoejniaaGreatDoor

namespace Go.Proofs.YtbcplffdoejniaaGreatDoor
open Go.RowKit
set_option linter.unusedVariables false
set_option linter.unusedSimpArgs false

set_option maxRecDepth 100000 in
set_option maxHeartbeats 2000000 in
theorem rjoin_err {w : World} {Z1 Z2 Z3 Z4 : Zone} {s t : Bool} {l k l' k' : List Nat} {A B C D : Option Addr} {a b c d : Nat} (u1 : U64s w Z1 A a l) (u2 : U64s w Z2 B b k) (u3 : U64s w Z3 C c l') (u4 : U64s w Z4 D d k') (q1 : l.length ≤ 2000) (q2 : k.length ≤ 2000) (q3 : l'.length ≤ 2000) (q4 : k'.length ≤ 2000) {f1 f2 : Value} (ho : ¬ (okQ s l k = true ∧ okQ t l' k' = true)) :
    Calls Tryz.prog 34 #[.agg #[.bool s, .slice A l.length a, .slice B k.length b], .agg #[.bool t, .slice C l'.length c, .slice D k'.length d], f1, f2] w fun e w' => e = .returned (.tuple #[.agg #[.bool false, .slice none 0 0, .slice none 0 0], .int .i64 8]) ∧ Below w.heap.size w w' := by
  obtain ⟨bA, bB, bR, hB0⟩ := boxesQ w (.bool s) (.slice A l.length a) (.slice B k.length b) (.bool t) (.slice C l'.length c) (.slice D k'.length d) (.bool false) (.slice none 0 0) (.slice none 0 0)
  have Hck := Lib.hid (joinedHead u1 u2 u3 u4 q1 q2 q3 q4 (E := 8) (by rw [errFs_two]; exact if_neg ho))
  have hal : Below (((w.alloc (.cells #[.bool s, .slice A l.length a, .slice B k.length b] 28)).alloc (.cells #[.bool t, .slice C l'.length c, .slice D k'.length d] 28)).alloc (.cells #[.bool false, .slice none 0 0, .slice none 0 0] 28)).heap.size (((w.alloc (.cells #[.bool s, .slice A l.length a, .slice B k.length b] 28)).alloc (.cells #[.bool t, .slice C l'.length c, .slice D k'.length d] 28)).alloc (.cells #[.bool false, .slice none 0 0, .slice none 0 0] 28)) ((((w.alloc (.cells #[.bool s, .slice A l.length a, .slice B k.length b] 28)).alloc (.cells #[.bool t, .slice C l'.length c, .slice D k'.length d] 28)).alloc (.cells #[.bool false, .slice none 0 0, .slice none 0 0] 28)).alloc (.cells #[.bool s, .slice A l.length a, .slice B k.length b, .bool t, .slice C l'.length c, .slice D k'.length d] 28)) := (Below.refl _ _).alloc (Nat.le_refl _) _
  have HB1 := Lib.hid (from_ hB0 hal)
  have BR1 := Lib.hid (bR.below hal)
  obtain ⟨a0, a1, a2, _, _, _, _⟩ := bA
  obtain ⟨b0, b1, b2, _, _, _, _⟩ := bB
  clear u1 u2 u3 u4 q1 q2 q3 q4 ho hal hB0 bR
  generalize l.length = L1 at *
  generalize k.length = L2 at *
  generalize l'.length = L3 at *
  generalize k'.length = L4 at *
  go_enter Tryz.func34, Tryz.ntmps34
  go_wp2_with fail
  refine Hck.out.mono ?_
  rintro e w1 ⟨rfl, hc1⟩
  have HB2 := Lib.hid (from_ HB1.out hc1)
  have BR2 := Lib.hid (BR1.out.below hc1)
  have HP := Lib.hid (BR2.out.put HB2.out (by omega) (.bool false) (.slice none 0 0) (.slice none 0 0))
  obtain ⟨qq0, qq1, qq2, ff0, ff1, ff2, _⟩ := (show Box3 w1 (w.heap.size + 1 + 1) _ _ _ from BR2.out)
  clear a0 a1 a2 b0 b1 b2
  go_wp2
  refine bodyPost_ret (res_rat2 rfl _ (w.heap.size + 2) rfl HP.out.c0 HP.out.c1 HP.out.c2) rfl ?_
  exact ⟨rfl, HP.out.bel⟩

set_option maxRecDepth 100000 in
set_option maxHeartbeats 2000000 in
theorem radd_err {w : World} {Z1 Z2 Z3 Z4 : Zone} {s t : Bool} {l k l' k' : List Nat} {A B C D : Option Addr} {a b c d : Nat} (u1 : U64s w Z1 A a l) (u2 : U64s w Z2 B b k) (u3 : U64s w Z3 C c l') (u4 : U64s w Z4 D d k') (q1 : l.length ≤ 2000) (q2 : k.length ≤ 2000) (q3 : l'.length ≤ 2000) (q4 : k'.length ≤ 2000) (ho : ¬ (okQ s l k = true ∧ okQ t l' k' = true)) :
    Calls Tryz.prog 13 #[.agg #[.bool s, .slice A l.length a, .slice B k.length b], .agg #[.bool t, .slice C l'.length c, .slice D k'.length d]] w fun e w' => e = .returned (.tuple #[.agg #[.bool false, .slice none 0 0, .slice none 0 0], .int .i64 8]) ∧ Below w.heap.size w w' := by
  obtain ⟨bA, bB, bR, hB0⟩ := boxesQ w (.bool s) (.slice A l.length a) (.slice B k.length b) (.bool t) (.slice C l'.length c) (.slice D k'.length d) (.bool false) (.slice none 0 0) (.slice none 0 0)
  have Hj := Lib.hid (fun (f1 f2 : Value) => rjoin_err (w := (((w.alloc (.cells #[.bool s, .slice A l.length a, .slice B k.length b] 28)).alloc (.cells #[.bool t, .slice C l'.length c, .slice D k'.length d] 28)).alloc (.cells #[.bool false, .slice none 0 0, .slice none 0 0] 28))) (f1 := f1) (f2 := f2) (u1.below hB0) (u2.below hB0) (u3.below hB0) (u4.below hB0) q1 q2 q3 q4 ho)
  have HB0 := Lib.hid hB0
  have BR0 := Lib.hid bR
  obtain ⟨a0, a1, a2, _, _, _, _⟩ := bA
  obtain ⟨b0, b1, b2, _, _, _, _⟩ := bB
  clear u1 u2 u3 u4 q1 q2 q3 q4 ho hB0 bR
  generalize l.length = L1 at *
  generalize k.length = L2 at *
  generalize l'.length = L3 at *
  generalize k'.length = L4 at *
  go_enter Tryz.func13, Tryz.ntmps13
  go_wp2_with fail
  refine (Hj.out _ _).mono ?_
  rintro e w4 ⟨rfl, hc4⟩
  have HB5 := Lib.hid (from_ HB0.out hc4)
  have BR5 := Lib.hid (BR0.out.below hc4)
  have HP := Lib.hid (BR5.out.put HB5.out (by omega) (.bool false) (.slice none 0 0) (.slice none 0 0))
  obtain ⟨qq0, qq1, qq2, ff0, ff1, ff2, _⟩ := (show Box3 w4 (w.heap.size + 1 + 1) _ _ _ from BR5.out)
  clear a0 a1 a2 b0 b1 b2
  go_wp2
  refine bodyPost_ret (res_rat2 rfl _ (w.heap.size + 2) rfl HP.out.c0 HP.out.c1 HP.out.c2) rfl ?_
  exact ⟨rfl, HP.out.bel⟩

theorem rdiv_zero {w : World} {Z1 Z2 Z3 Z4 : Zone} {s t : Bool} {l k l' k' : List Nat} {A B C D : Option Addr} {a b c d : Nat} {p q : Rat} (hp : NmQ p s l k) (hq : NmQ q t l' k') (hq0 : q.num = 0) (u1 : U64s w Z1 A a l) (u2 : U64s w Z2 B b k) (u3 : U64s w Z3 C c l') (u4 : U64s w Z4 D d k') (q1 : l.length ≤ 2000) (q2 : k.length ≤ 2000) (q3 : l'.length ≤ 2000) (q4 : k'.length ≤ 2000) :
    Calls Tryz.prog 16 #[.agg #[.bool s, .slice A l.length a, .slice B k.length b], .agg #[.bool t, .slice C l'.length c, .slice D k'.length d]] w fun e w' => ∃ An cn Ad cd, e = .returned (.tuple #[.agg #[.bool false, .slice An 0 cn, .slice Ad 0 cd], .int .i64 30]) ∧ U64s w' (new w.heap.size) An cn [] ∧ U64s w' (new w.heap.size) Ad cd [] ∧ Below w.heap.size w w' := by
  obtain ⟨r1, m1, n1⟩ : ∃ s l, Nm (p.num * (q.den : Int)) s l := ⟨_, _, Nm.mk' _⟩
  obtain ⟨r2, m2, n2⟩ : ∃ s l, Nm ((p.den : Int) * q.num) s l := ⟨_, _, Nm.mk' _⟩
  have h0 : m2.length = 0 := by
    rw [n2.2, hq0, Int.mul_zero]
    rfl
  have hE : errQ r1 m1 r2 m2 = 30 := by
    unfold errQ
    rw [if_pos ⟨n1.okI, n2.okI⟩, if_pos h0]
  exact rdiv_at u1 u2 u3 u4 q1 q2 q3 q4 hp.ok hq.ok (r1 := r1) (m1 := m1) (r2 := r2) (m2 := m2) (r := false) (la := []) (ld := []) (E := 30)
    (Lib.hid fun W hW hs => rdiv1 hs hp hq n1 (by omega) (by omega) (by omega) (by omega) (u1.below hW) (u2.below hW) (u3.below hW) (u4.below hW))
    (Lib.hid fun W hW hs => rdiv2 hs hp hq n2 (by omega) (by omega) (by omega) (by omega) (u1.below hW) (u2.below hW) (u3.below hW) (u4.below hW))
    (Lib.hid fun W Y1 Y2 A1 c1 A2 c2 v1 v2 => by
      refine (ratof_err v1 v2 hE (.inr rfl)).mono ?_
      rintro e w' ⟨rfl, hb⟩
      exact ⟨none, 0, none, 0, rfl, U64s.nil _ _, U64s.nil _ _, hb⟩)

theorem stQ3 {W : World} {g r i : Nat} {v x y z : Value} (h : W.cell? ⟨g, i, none⟩ = some v) (hn : r ≠ g) : (((W.setCell ⟨r, 0, none⟩ x).setCell ⟨r, 1, none⟩ y).setCell ⟨r, 2, none⟩ z).cell? ⟨g, i, none⟩ = some v := by
  rw [World.cell?_setCell_other _ _ _ _ (fun e => hn (by injection e)), World.cell?_setCell_other _ _ _ _ (fun e => hn (by injection e)), World.cell?_setCell_other _ _ _ _ (fun e => hn (by injection e))]
  exact h
theorem boxQ_st3 {W : World} {g h r : Nat} {x0 x1 x2 y0 y1 y2 x y z : Value} (hg : r ≠ g) (hh : r ≠ h) (hs : W.cell? ⟨g, 0, none⟩ = some (x0) ∧ W.cell? ⟨g, 1, none⟩ = some (x1) ∧ W.cell? ⟨g, 2, none⟩ = some (x2) ∧ W.cell? ⟨h, 0, none⟩ = some (y0) ∧ W.cell? ⟨h, 1, none⟩ = some (y1) ∧ W.cell? ⟨h, 2, none⟩ = some (y2)) :
    let V := ((W.setCell ⟨r, 0, none⟩ x).setCell ⟨r, 1, none⟩ y).setCell ⟨r, 2, none⟩ z
    V.cell? ⟨g, 0, none⟩ = some (x0) ∧ V.cell? ⟨g, 1, none⟩ = some (x1) ∧ V.cell? ⟨g, 2, none⟩ = some (x2) ∧ V.cell? ⟨h, 0, none⟩ = some (y0) ∧ V.cell? ⟨h, 1, none⟩ = some (y1) ∧ V.cell? ⟨h, 2, none⟩ = some (y2) := by
  obtain ⟨h0, h1, h2, h3, h4, h5⟩ := hs
  exact ⟨stQ3 h0 hg, stQ3 h1 hg, stQ3 h2 hg, stQ3 h3 hh, stQ3 h4 hh, stQ3 h5 hh⟩

theorem nmq_neg {q : Rat} {t : Bool} {l k : List Nat} (h : NmQ q t l k) : NmQ (-q) (!t && decide (0 < l.length)) l k := by
  obtain ⟨h1, h2, h3⟩ := h
  refine ⟨?_, by rw [Rat.neg_num, Int.natAbs_neg]; exact h2, by rw [Rat.neg_den]; exact h3⟩
  have e0 : (0 < l.length) ↔ q.num ≠ 0 := by rw [h2, len_pos]; omega
  have e0' : decide (0 < l.length) = decide (q.num ≠ 0) := decide_eq_decide.2 e0
  rw [e0', h1, Rat.neg_num, Bool.eq_iff_iff]
  simp only [Bool.and_eq_true, Bool.not_eq_true', decide_eq_true_iff, decide_eq_false_iff_not, ne_eq]
  omega

set_option maxRecDepth 100000 in
set_option maxHeartbeats 2000000 in
theorem rsub_q {w : World} {Z1 Z2 Z3 Z4 : Zone} {s t : Bool} {l k l' k' : List Nat} {A B C D : Option Addr} {a b c d : Nat} {p q z : Rat} {r : Bool} {la ld : List Nat} (hp : NmQ p s l k) (hq : NmQ q t l' k') (hz : NmQ z r la ld) (he : p - q = z) (u1 : U64s w Z1 A a l) (u2 : U64s w Z2 B b k) (u3 : U64s w Z3 C c l') (u4 : U64s w Z4 D d k') (q1 : l.length ≤ 2000) (q2 : k.length ≤ 2000) (q3 : l'.length ≤ 2000) (q4 : k'.length ≤ 2000) :
    Calls Tryz.prog 15 #[.agg #[.bool s, .slice A l.length a, .slice B k.length b], .agg #[.bool t, .slice C l'.length c, .slice D k'.length d]] w fun e w' => ∃ An cn Ad cd, e = .returned (.tuple #[.agg #[.bool r, .slice An la.length cn, .slice Ad ld.length cd], .int .i64 0]) ∧ U64s w' (new w.heap.size) An cn la ∧ U64s w' (new w.heap.size) Ad cd ld ∧ Below w.heap.size w w' := by
  obtain ⟨bA, bB, bR, hB0⟩ := boxesQ w (.bool s) (.slice A l.length a) (.slice B k.length b) (.bool t) (.slice C l'.length c) (.slice D k'.length d) (.bool false) (.slice none 0 0) (.slice none 0 0)
  have Hck := Lib.hid (joinedHead u1 u2 u3 u4 q1 q2 q3 q4 (E := 0) (by rw [errFs_two]; exact if_pos ⟨hp.ok, hq.ok⟩))
  obtain ⟨t2, ht2⟩ : ∃ t2, t2 = (!t && decide (0 < l'.length)) := ⟨_, rfl⟩
  have hnq := nmq_neg hq
  rw [← ht2] at hnq
  have Ng := Lib.hid (fun (W : World) => rneg_n (w := W) (s := t) (l := l') (k := k') (A := C) (B := D) (c := c) (d := d) ht2.symm)
  have CA := Lib.hid (fun (W : World) (hW : Below w.heap.size w W) => radd_q hp hnq hz (by rw [← he, Rat.sub_eq_add_neg]) (u1.below hW) (u2.below hW) (u3.below hW) (u4.below hW) q1 q2 q3 q4)
  have hal : Below (((w.alloc (.cells #[.bool s, .slice A l.length a, .slice B k.length b] 28)).alloc (.cells #[.bool t, .slice C l'.length c, .slice D k'.length d] 28)).alloc (.cells #[.bool false, .slice none 0 0, .slice none 0 0] 28)).heap.size (((w.alloc (.cells #[.bool s, .slice A l.length a, .slice B k.length b] 28)).alloc (.cells #[.bool t, .slice C l'.length c, .slice D k'.length d] 28)).alloc (.cells #[.bool false, .slice none 0 0, .slice none 0 0] 28)) ((((w.alloc (.cells #[.bool s, .slice A l.length a, .slice B k.length b] 28)).alloc (.cells #[.bool t, .slice C l'.length c, .slice D k'.length d] 28)).alloc (.cells #[.bool false, .slice none 0 0, .slice none 0 0] 28)).alloc (.cells #[.bool s, .slice A l.length a, .slice B k.length b, .bool t, .slice C l'.length c, .slice D k'.length d] 28)) := (Below.refl _ _).alloc (Nat.le_refl _) _
  have hs0 : (((w.alloc (.cells #[.bool s, .slice A l.length a, .slice B k.length b] 28)).alloc (.cells #[.bool t, .slice C l'.length c, .slice D k'.length d] 28)).alloc (.cells #[.bool false, .slice none 0 0, .slice none 0 0] 28)).cell? ⟨w.heap.size, 0, none⟩ = some (.bool s) ∧ (((w.alloc (.cells #[.bool s, .slice A l.length a, .slice B k.length b] 28)).alloc (.cells #[.bool t, .slice C l'.length c, .slice D k'.length d] 28)).alloc (.cells #[.bool false, .slice none 0 0, .slice none 0 0] 28)).cell? ⟨w.heap.size, 1, none⟩ = some (.slice A l.length a) ∧ (((w.alloc (.cells #[.bool s, .slice A l.length a, .slice B k.length b] 28)).alloc (.cells #[.bool t, .slice C l'.length c, .slice D k'.length d] 28)).alloc (.cells #[.bool false, .slice none 0 0, .slice none 0 0] 28)).cell? ⟨w.heap.size, 2, none⟩ = some (.slice B k.length b) ∧ (((w.alloc (.cells #[.bool s, .slice A l.length a, .slice B k.length b] 28)).alloc (.cells #[.bool t, .slice C l'.length c, .slice D k'.length d] 28)).alloc (.cells #[.bool false, .slice none 0 0, .slice none 0 0] 28)).cell? ⟨(w.heap.size + 1), 0, none⟩ = some (.bool t) ∧ (((w.alloc (.cells #[.bool s, .slice A l.length a, .slice B k.length b] 28)).alloc (.cells #[.bool t, .slice C l'.length c, .slice D k'.length d] 28)).alloc (.cells #[.bool false, .slice none 0 0, .slice none 0 0] 28)).cell? ⟨(w.heap.size + 1), 1, none⟩ = some (.slice C l'.length c) ∧ (((w.alloc (.cells #[.bool s, .slice A l.length a, .slice B k.length b] 28)).alloc (.cells #[.bool t, .slice C l'.length c, .slice D k'.length d] 28)).alloc (.cells #[.bool false, .slice none 0 0, .slice none 0 0] 28)).cell? ⟨(w.heap.size + 1), 2, none⟩ = some (.slice D k'.length d) := ⟨bA.c0, bA.c1, bA.c2, bB.c0, bB.c1, bB.c2⟩
  have HS := Lib.hid (boxQ_keep hs0 hal)
  have HB1 := Lib.hid (from_ hB0 hal)
  have BR1 := Lib.hid (bR.below hal)
  obtain ⟨a0, a1, a2, _, _, _, _⟩ := bA
  obtain ⟨b0, b1, b2, _, _, _, _⟩ := bB
  clear u1 u2 u3 u4 q1 q2 q3 q4 hp hq hz he hnq ht2 hal hB0 bR hs0
  go_enter Tryz.func15, Tryz.ntmps15
  go_wp2_with fail
  refine Hck.out.mono ?_
  rintro e w1 ⟨rfl, hc1⟩
  have hs := boxQ_keep (boxQ_keep HS.out hc1) (Below.refl _ _).drew
  have Hc := Lib.hid ((from_ HB1.out hc1).drew)
  have BRx : Box3 _ (w.heap.size + 1 + 1) _ _ _ := (BR1.out.below hc1).below (Below.refl _ _).drew
  have HR := Lib.hid BRx
  clear a0 a1 a2 b0 b1 b2 HS HB1 BR1 BRx Hck hc1
  go_wp2
  generalize hgR : w.heap.size + 1 + 1 = gR at *
  have N1 := Lib.hid (show gR ≠ w.heap.size by omega)
  have N2 := Lib.hid (show gR ≠ w.heap.size + 1 by omega)
  have N3 := Lib.hid (show w.heap.size ≤ gR by omega)
  clear hgR
  go_region_held3 (fun w' => w'.cell? ⟨w.heap.size, 0, none⟩ = some (.bool s) ∧ w'.cell? ⟨w.heap.size, 1, none⟩ = some (.slice A l.length a) ∧ w'.cell? ⟨w.heap.size, 2, none⟩ = some (.slice B k.length b) ∧ w'.cell? ⟨(w.heap.size + 1), 0, none⟩ = some (.bool t) ∧ w'.cell? ⟨(w.heap.size + 1), 1, none⟩ = some (.slice C l'.length c) ∧ w'.cell? ⟨(w.heap.size + 1), 2, none⟩ = some (.slice D k'.length d))
    (first
      | with_reducible exact hs
      | with_reducible exact boxQ_st3 N1.out N2.out hs)
    (first
      | (go_at_call 43; with_reducible refine (Ng.out _).mono ?_; rintro e w' ⟨rfl, hc⟩; replace hs := boxQ_keep hs hc; replace HR := Lib.hid (HR.out.below hc); replace Hc := Lib.hid (from_ Hc.out hc))
      | (go_at_call 13; with_reducible refine (CA.out _ Hc.out).mono ?_; rintro e w' ⟨An, cn, Ad, cd, rfl, v3, v4, hc⟩; replace hs := boxQ_keep hs hc; have zl := HR.out.lt; replace HR := Lib.hid (HR.out.below hc); have Hp := Hc; replace Hc := Lib.hid (from_ Hc.out hc); obtain ⟨qq0, qq1, qq2, ff0, ff1, ff2, _⟩ := id HR.out))
  all_goals
    have HP := Lib.hid (HR.out.put Hc.out N3.out (.bool r) (.slice An la.length cn) (.slice Ad ld.length cd))
    have HN5 := Lib.hid ((HP.out.keep (fun (h : _ ≤ gR) => by omega) v3).mono (Y := new w.heap.size) (new_le Hp.out.size))
    have HD5 := Lib.hid ((HP.out.keep (fun (h : _ ≤ gR) => by omega) v4).mono (Y := new w.heap.size) (new_le Hp.out.size))
    clear v3 v4
    go_wp2
    refine bodyPost_ret (res_rat2 rfl _ gR rfl HP.out.c0 HP.out.c1 HP.out.c2) rfl ?_
    exact ⟨_, _, _, _, rfl, HN5.out, HD5.out, HP.out.bel⟩

set_option maxRecDepth 100000 in
set_option maxHeartbeats 2000000 in
theorem rsub_err {w : World} {Z1 Z2 Z3 Z4 : Zone} {s t : Bool} {l k l' k' : List Nat} {A B C D : Option Addr} {a b c d : Nat} (u1 : U64s w Z1 A a l) (u2 : U64s w Z2 B b k) (u3 : U64s w Z3 C c l') (u4 : U64s w Z4 D d k') (q1 : l.length ≤ 2000) (q2 : k.length ≤ 2000) (q3 : l'.length ≤ 2000) (q4 : k'.length ≤ 2000) (ho : ¬ (okQ s l k = true ∧ okQ t l' k' = true)) :
    Calls Tryz.prog 15 #[.agg #[.bool s, .slice A l.length a, .slice B k.length b], .agg #[.bool t, .slice C l'.length c, .slice D k'.length d]] w fun e w' => e = .returned (.tuple #[.agg #[.bool false, .slice none 0 0, .slice none 0 0], .int .i64 8]) ∧ Below w.heap.size w w' := by
  obtain ⟨bA, bB, bR, hB0⟩ := boxesQ w (.bool s) (.slice A l.length a) (.slice B k.length b) (.bool t) (.slice C l'.length c) (.slice D k'.length d) (.bool false) (.slice none 0 0) (.slice none 0 0)
  have Hck := Lib.hid (joinedHead u1 u2 u3 u4 q1 q2 q3 q4 (E := 8) (by rw [errFs_two]; exact if_neg ho))
  have hal : Below (((w.alloc (.cells #[.bool s, .slice A l.length a, .slice B k.length b] 28)).alloc (.cells #[.bool t, .slice C l'.length c, .slice D k'.length d] 28)).alloc (.cells #[.bool false, .slice none 0 0, .slice none 0 0] 28)).heap.size (((w.alloc (.cells #[.bool s, .slice A l.length a, .slice B k.length b] 28)).alloc (.cells #[.bool t, .slice C l'.length c, .slice D k'.length d] 28)).alloc (.cells #[.bool false, .slice none 0 0, .slice none 0 0] 28)) ((((w.alloc (.cells #[.bool s, .slice A l.length a, .slice B k.length b] 28)).alloc (.cells #[.bool t, .slice C l'.length c, .slice D k'.length d] 28)).alloc (.cells #[.bool false, .slice none 0 0, .slice none 0 0] 28)).alloc (.cells #[.bool s, .slice A l.length a, .slice B k.length b, .bool t, .slice C l'.length c, .slice D k'.length d] 28)) := (Below.refl _ _).alloc (Nat.le_refl _) _
  have HB1 := Lib.hid (from_ hB0 hal)
  have BR1 := Lib.hid (bR.below hal)
  obtain ⟨a0, a1, a2, _, _, _, _⟩ := bA
  obtain ⟨b0, b1, b2, _, _, _, _⟩ := bB
  clear u1 u2 u3 u4 q1 q2 q3 q4 ho hal hB0 bR
  generalize l.length = L1 at *
  generalize k.length = L2 at *
  generalize l'.length = L3 at *
  generalize k'.length = L4 at *
  go_enter Tryz.func15, Tryz.ntmps15
  go_wp2_with fail
  refine Hck.out.mono ?_
  rintro e w1 ⟨rfl, hc1⟩
  have HB2 := Lib.hid (from_ HB1.out hc1)
  have BR2 := Lib.hid (BR1.out.below hc1)
  have HP := Lib.hid (BR2.out.put HB2.out (by omega) (.bool false) (.slice none 0 0) (.slice none 0 0))
  obtain ⟨qq0, qq1, qq2, ff0, ff1, ff2, _⟩ := (show Box3 w1 (w.heap.size + 1 + 1) _ _ _ from BR2.out)
  clear a0 a1 a2 b0 b1 b2
  go_wp2
  refine bodyPost_ret (res_rat2 rfl _ (w.heap.size + 2) rfl HP.out.c0 HP.out.c1 HP.out.c2) rfl ?_
  exact ⟨rfl, HP.out.bel⟩

end Go.Proofs.YtbcplffdoejniaaGreatDoor

namespace Go.Proofs.YtbcplffdoejniaaGreatDoor
open Go.RowKit
set_option linter.unusedVariables false
set_option linter.unusedSimpArgs false

theorem boxes2Q (w : World) (a0 a1 a2 b0 b1 b2 : Value) :
    Box3 ((w.alloc (.cells #[a0, a1, a2] 28)).alloc (.cells #[b0, b1, b2] 28)) w.heap.size a0 a1 a2 ∧
    Box3 ((w.alloc (.cells #[a0, a1, a2] 28)).alloc (.cells #[b0, b1, b2] 28)) (w.heap.size + 1) b0 b1 b2 ∧
    Below w.heap.size w ((w.alloc (.cells #[a0, a1, a2] 28)).alloc (.cells #[b0, b1, b2] 28)) := by
  have h1 := (Box3.new w a0 a1 a2 28).alloc (.cells #[b0, b1, b2] 28)
  have h2 := Box3.new (w.alloc (.cells #[a0, a1, a2] 28)) b0 b1 b2 28
  rw [show (w.alloc (.cells #[a0, a1, a2] 28)).heap.size = w.heap.size + 1 by simp] at h2
  exact ⟨h1, h2, ((Below.refl _ w).alloc (Nat.le_refl _) _).alloc (by simp) _⟩

set_option maxRecDepth 100000 in
set_option maxHeartbeats 2000000 in
theorem rcmp_q {w : World} {Z1 Z2 Z3 Z4 : Zone} {s t : Bool} {l k l' k' : List Nat} {A B C D : Option Addr} {a b c d : Nat} {p q : Rat} {g : Int} (hp : NmQ p s l k) (hq : NmQ q t l' k') (hg : sgn (p - q).num = g) (u1 : U64s w Z1 A a l) (u2 : U64s w Z2 B b k) (u3 : U64s w Z3 C c l') (u4 : U64s w Z4 D d k') (q1 : l.length ≤ 2000) (q2 : k.length ≤ 2000) (q3 : l'.length ≤ 2000) (q4 : k'.length ≤ 2000) :
    Calls Tryz.prog 17 #[.agg #[.bool s, .slice A l.length a, .slice B k.length b], .agg #[.bool t, .slice C l'.length c, .slice D k'.length d]] w fun e w' => e = .returned (.tuple #[.int .i64 g, .int .i64 0]) ∧ Below w.heap.size w w' := by
  obtain ⟨bA, bB, hB0⟩ := boxes2Q w (.bool s) (.slice A l.length a) (.slice B k.length b) (.bool t) (.slice C l'.length c) (.slice D k'.length d)
  obtain ⟨r, la, ld, hz⟩ : ∃ r la ld, NmQ (p - q) r la ld := ⟨_, _, _, NmQ.mk' _⟩
  have CS := Lib.hid (rsub_q hp hq hz rfl (u1.below hB0) (u2.below hB0) (u3.below hB0) (u4.below hB0) q1 q2 q3 q4)
  have SG := Lib.hid (fun (W : World) (Z : Zone) (A1 : Option Addr) (c1 : Nat) (h : U64s W Z A1 c1 la) => sign_n hz.num hg h)
  have HB0 := Lib.hid hB0
  obtain ⟨a0, a1, a2, _, _, _, _⟩ := bA
  obtain ⟨b0, b1, b2, _, _, _, _⟩ := bB
  clear u1 u2 u3 u4 q1 q2 q3 q4 hp hq hz hg hB0
  generalize l.length = L1 at *
  generalize k.length = L2 at *
  generalize l'.length = L3 at *
  generalize k'.length = L4 at *
  go_enter Tryz.func17, Tryz.ntmps17
  go_wp2_with fail
  refine CS.out.mono ?_
  rintro e w1 ⟨An, cn, Ad, cd, rfl, v3, v4, hc⟩
  have HB1 := Lib.hid (from_ HB0.out hc)
  have v5 := v3.below (box_rat w1 (.bool r) (.slice An la.length cn) (.slice Ad ld.length cd) |>.mono (Nat.le_refl _))
  have HB2 := Lib.hid (from_ HB1.out (box_rat w1 (.bool r) (.slice An la.length cn) (.slice Ad ld.length cd)))
  clear v3 v4 a0 a1 a2 b0 b1 b2
  go_wp2_with fail
  refine (SG.out _ _ _ _ v5).mono ?_
  rintro e w2 ⟨rfl, hc2⟩
  have HB3 := Lib.hid (from_ HB2.out hc2)
  go_wp2
  go_ret2
  exact ⟨rfl, HB3.out⟩

set_option maxRecDepth 100000 in
set_option maxHeartbeats 2000000 in
theorem rcmp_err {w : World} {Z1 Z2 Z3 Z4 : Zone} {s t : Bool} {l k l' k' : List Nat} {A B C D : Option Addr} {a b c d : Nat} (u1 : U64s w Z1 A a l) (u2 : U64s w Z2 B b k) (u3 : U64s w Z3 C c l') (u4 : U64s w Z4 D d k') (q1 : l.length ≤ 2000) (q2 : k.length ≤ 2000) (q3 : l'.length ≤ 2000) (q4 : k'.length ≤ 2000) (ho : ¬ (okQ s l k = true ∧ okQ t l' k' = true)) :
    Calls Tryz.prog 17 #[.agg #[.bool s, .slice A l.length a, .slice B k.length b], .agg #[.bool t, .slice C l'.length c, .slice D k'.length d]] w fun e w' => e = .returned (.tuple #[.int .i64 0, .int .i64 8]) ∧ Below w.heap.size w w' := by
  obtain ⟨bA, bB, hB0⟩ := boxes2Q w (.bool s) (.slice A l.length a) (.slice B k.length b) (.bool t) (.slice C l'.length c) (.slice D k'.length d)
  have CS := Lib.hid (rsub_err (u1.below hB0) (u2.below hB0) (u3.below hB0) (u4.below hB0) q1 q2 q3 q4 ho)
  have HB0 := Lib.hid hB0
  obtain ⟨a0, a1, a2, _, _, _, _⟩ := bA
  obtain ⟨b0, b1, b2, _, _, _, _⟩ := bB
  clear u1 u2 u3 u4 q1 q2 q3 q4 ho hB0
  generalize l.length = L1 at *
  generalize k.length = L2 at *
  generalize l'.length = L3 at *
  generalize k'.length = L4 at *
  go_enter Tryz.func17, Tryz.ntmps17
  go_wp2_with fail
  refine CS.out.mono ?_
  rintro e w1 ⟨rfl, hc⟩
  have HB1 := Lib.hid (from_ HB0.out hc)
  have HB2 := Lib.hid (from_ HB1.out (box_rat w1 (.bool false) (.slice none 0 0) (.slice none 0 0)))
  clear a0 a1 a2 b0 b1 b2
  go_wp2
  go_ret2
  exact ⟨rfl, HB2.out⟩

theorem stI {W : World} {g r : Nat} {x0 x1 x2 x y : Value} (hg : r ≠ g) (hs : W.cell? ⟨g, 0, none⟩ = some x0 ∧ W.cell? ⟨g, 1, none⟩ = some x1 ∧ W.cell? ⟨g, 2, none⟩ = some x2) :
    let V := (W.setCell ⟨r, 0, none⟩ x).setCell ⟨r, 1, none⟩ y
    V.cell? ⟨g, 0, none⟩ = some x0 ∧ V.cell? ⟨g, 1, none⟩ = some x1 ∧ V.cell? ⟨g, 2, none⟩ = some x2 := by
  obtain ⟨h0, h1, h2⟩ := hs
  exact ⟨stQ2 h0 hg, stQ2 h1 hg, stQ2 h2 hg⟩
theorem keep3 {W W' : World} {g : Nat} {x0 x1 x2 : Value} (hs : W.cell? ⟨g, 0, none⟩ = some x0 ∧ W.cell? ⟨g, 1, none⟩ = some x1 ∧ W.cell? ⟨g, 2, none⟩ = some x2) (hb : Below W.heap.size W W') :
    W'.cell? ⟨g, 0, none⟩ = some x0 ∧ W'.cell? ⟨g, 1, none⟩ = some x1 ∧ W'.cell? ⟨g, 2, none⟩ = some x2 := ⟨keepC hb hs.1, keepC hb hs.2.1, keepC hb hs.2.2⟩

theorem wfloor_n {w : World} {Z1 Z2 : Zone} {x y : Int} {s t r : Bool} {l k m : List Nat} {A B : Option Addr} {c d : Nat} (h1 : Nm x s l) (h2 : Nm y t k) (hy : y ≠ 0) (h3 : Nm (rq x y true) r m) (hl : l.length ≤ 10000) (u1 : U64s w Z1 A c l) (u2 : U64s w Z2 B d k) :
    Calls Tryz.prog 47 #[.agg #[.bool s, .slice A l.length c], .agg #[.bool t, .slice B k.length d]] w fun e w' => ∃ Av cv, e = .returned (.tuple #[.agg #[.bool r, .slice Av m.length cv], .int .i64 0]) ∧ U64s w' (new w.heap.size) Av cv m ∧ Below w.heap.size w w' := by
  refine (wfloor_z (h1.isZ u1) (h2.isZ u2) hy (by rw [← h1.len]; exact hl)).mono ?_
  rintro e w' ⟨v, rfl, hv, hb⟩
  obtain ⟨Av, cv, rfl, hu⟩ := h3.of hv
  exact ⟨Av, cv, rfl, hu, hb⟩

set_option maxRecDepth 100000 in
set_option maxHeartbeats 2000000 in
theorem rfloor_q {w : World} {Z1 Z2 : Zone} {s r : Bool} {l k m : List Nat} {A B : Option Addr} {a b : Nat} {p : Rat} (hp : NmQ p s l k) (hz : Nm (rq p.num (p.den : Int) true) r m) (u1 : U64s w Z1 A a l) (u2 : U64s w Z2 B b k) (q1 : l.length ≤ 2000) (q2 : k.length ≤ 2000) :
    Calls Tryz.prog 18 #[.agg #[.bool s, .slice A l.length a, .slice B k.length b]] w fun e w' => ∃ Av cv, e = .returned (.tuple #[.agg #[.bool r, .slice Av m.length cv], .int .i64 0]) ∧ U64s w' (new w.heap.size) Av cv m ∧ Below w.heap.size w w' := by
  have hB := box_rat w (.bool s) (.slice A l.length a) (.slice B k.length b)
  have bA := (Box3.new w (.bool s) (.slice A l.length a) (.slice B k.length b) 28).alloc (.cells #[.bool false, .slice none 0 0] 25)
  have bR := Box.new (w.alloc (.cells #[.bool s, .slice A l.length a, .slice B k.length b] 28)) (.bool false) (.slice none 0 0) 25
  have hB0 := hB.alloc hB.size (.cells #[.bool false, .slice none 0 0] 25)
  have hck := ratcheck_any (s := s) (u1.below hB0) (u2.below hB0) (by omega) (by omega)
  have e0 : errF s l k = 0 := by unfold errF; rw [if_pos hp.ok]
  rw [e0] at hck
  have Dn := Lib.hid (fun (W : World) => rden_n (w := W) (s := s) (l := l) (k := k) (A := A) (B := B) (c := a) (d := b))
  have CF := Lib.hid (fun (W : World) (hW : Below w.heap.size w W) => wfloor_n hp.num hp.den (by have := p.den_nz; omega) hz (by omega) (u1.below hW) (u2.below hW))
  have hs0 : ((w.alloc (.cells #[.bool s, .slice A l.length a, .slice B k.length b] 28)).alloc (.cells #[.bool false, .slice none 0 0] 25)).cell? ⟨w.heap.size, 0, none⟩ = some (.bool s) ∧ ((w.alloc (.cells #[.bool s, .slice A l.length a, .slice B k.length b] 28)).alloc (.cells #[.bool false, .slice none 0 0] 25)).cell? ⟨w.heap.size, 1, none⟩ = some (.slice A l.length a) ∧ ((w.alloc (.cells #[.bool s, .slice A l.length a, .slice B k.length b] 28)).alloc (.cells #[.bool false, .slice none 0 0] 25)).cell? ⟨w.heap.size, 2, none⟩ = some (.slice B k.length b) := ⟨bA.c0, bA.c1, bA.c2⟩
  have HS := Lib.hid hs0
  have HCK := Lib.hid hck
  have HB0 := Lib.hid hB0
  rw [show (w.alloc (.cells #[.bool s, .slice A l.length a, .slice B k.length b] 28)).heap.size = w.heap.size + 1 by simp] at bR
  have BR := Lib.hid bR
  obtain ⟨a0, a1, a2, _, _, _, _⟩ := bA
  clear u1 u2 q1 q2 hp hz hB hB0 bR hck e0 hs0
  go_enter Tryz.func18, Tryz.ntmps18
  go_wp2_with fail
  refine HCK.out.mono ?_
  rintro e w1 ⟨rfl, hc1⟩
  have hs := keep3 (keep3 HS.out hc1) (Below.refl _ _).drew
  have Hc := Lib.hid ((from_ HB0.out hc1).drew)
  have HR := Lib.hid ((BR.out.below hc1).below (Below.refl _ _).drew)
  clear a0 a1 a2 HS HB0 BR HCK hc1
  go_wp2
  have N1 := Lib.hid (show w.heap.size + 1 ≠ w.heap.size by omega)
  go_region_held3 (fun w' => w'.cell? ⟨w.heap.size, 0, none⟩ = some (.bool s) ∧ w'.cell? ⟨w.heap.size, 1, none⟩ = some (.slice A l.length a) ∧ w'.cell? ⟨w.heap.size, 2, none⟩ = some (.slice B k.length b))
    (first
      | with_reducible exact hs
      | with_reducible exact stI N1.out hs)
    (first
      | (go_at_call 38; with_reducible refine (Dn.out _).mono ?_; rintro e w' ⟨rfl, hc⟩; replace hs := keep3 hs hc; replace HR := Lib.hid (HR.out.below hc); replace Hc := Lib.hid (from_ Hc.out hc))
      | (go_at_call 47; with_reducible refine (CF.out _ Hc.out).mono ?_; rintro e w' ⟨Av, cv, rfl, v3, hc⟩; replace hs := keep3 hs hc; have zl := HR.out.lt; replace HR := Lib.hid (HR.out.below hc); replace Hc := Lib.hid (from_ Hc.out hc); obtain ⟨qq0, qq1, ff0, ff1, _⟩ := id HR.out))
  all_goals
    have HP := Lib.hid (HR.out.put Hc.out (by omega) (.bool r) (.slice Av m.length cv))
    have hiv : IsU _ _ (.slice Av m.length cv) m := ⟨Av, cv, rfl, v3⟩
    have Hu := Lib.hid (HP.out.keep zl hiv)
    clear hiv v3
    go_wp2
    refine bodyPost_ret (res_int2 rfl _ (w.heap.size + 1) rfl HP.out.c0 HP.out.c1) rfl ?_
    obtain ⟨A', c', e', h'⟩ := Hu.out
    injection e' with e1 e2 e3
    subst e1 e3
    exact ⟨_, _, rfl, h', HP.out.bel⟩

theorem wceil_n {w : World} {Z1 Z2 : Zone} {x y : Int} {s t r : Bool} {l k m : List Nat} {A B : Option Addr} {c d : Nat} (h1 : Nm x s l) (h2 : Nm y t k) (hy : y ≠ 0) (h3 : Nm (rq x y false) r m) (hl : l.length ≤ 10000) (u1 : U64s w Z1 A c l) (u2 : U64s w Z2 B d k) :
    Calls Tryz.prog 48 #[.agg #[.bool s, .slice A l.length c], .agg #[.bool t, .slice B k.length d]] w fun e w' => ∃ Av cv, e = .returned (.tuple #[.agg #[.bool r, .slice Av m.length cv], .int .i64 0]) ∧ U64s w' (new w.heap.size) Av cv m ∧ Below w.heap.size w w' := by
  refine (wceil_z (h1.isZ u1) (h2.isZ u2) hy (by rw [← h1.len]; exact hl)).mono ?_
  rintro e w' ⟨v, rfl, hv, hb⟩
  obtain ⟨Av, cv, rfl, hu⟩ := h3.of hv
  exact ⟨Av, cv, rfl, hu, hb⟩

set_option maxRecDepth 100000 in
set_option maxHeartbeats 2000000 in
theorem rceil_q {w : World} {Z1 Z2 : Zone} {s r : Bool} {l k m : List Nat} {A B : Option Addr} {a b : Nat} {p : Rat} (hp : NmQ p s l k) (hz : Nm (rq p.num (p.den : Int) false) r m) (u1 : U64s w Z1 A a l) (u2 : U64s w Z2 B b k) (q1 : l.length ≤ 2000) (q2 : k.length ≤ 2000) :
    Calls Tryz.prog 19 #[.agg #[.bool s, .slice A l.length a, .slice B k.length b]] w fun e w' => ∃ Av cv, e = .returned (.tuple #[.agg #[.bool r, .slice Av m.length cv], .int .i64 0]) ∧ U64s w' (new w.heap.size) Av cv m ∧ Below w.heap.size w w' := by
  have hB := box_rat w (.bool s) (.slice A l.length a) (.slice B k.length b)
  have bA := (Box3.new w (.bool s) (.slice A l.length a) (.slice B k.length b) 28).alloc (.cells #[.bool false, .slice none 0 0] 25)
  have bR := Box.new (w.alloc (.cells #[.bool s, .slice A l.length a, .slice B k.length b] 28)) (.bool false) (.slice none 0 0) 25
  have hB0 := hB.alloc hB.size (.cells #[.bool false, .slice none 0 0] 25)
  have hck := ratcheck_any (s := s) (u1.below hB0) (u2.below hB0) (by omega) (by omega)
  have e0 : errF s l k = 0 := by unfold errF; rw [if_pos hp.ok]
  rw [e0] at hck
  have Dn := Lib.hid (fun (W : World) => rden_n (w := W) (s := s) (l := l) (k := k) (A := A) (B := B) (c := a) (d := b))
  have CF := Lib.hid (fun (W : World) (hW : Below w.heap.size w W) => wceil_n hp.num hp.den (by have := p.den_nz; omega) hz (by omega) (u1.below hW) (u2.below hW))
  have hs0 : ((w.alloc (.cells #[.bool s, .slice A l.length a, .slice B k.length b] 28)).alloc (.cells #[.bool false, .slice none 0 0] 25)).cell? ⟨w.heap.size, 0, none⟩ = some (.bool s) ∧ ((w.alloc (.cells #[.bool s, .slice A l.length a, .slice B k.length b] 28)).alloc (.cells #[.bool false, .slice none 0 0] 25)).cell? ⟨w.heap.size, 1, none⟩ = some (.slice A l.length a) ∧ ((w.alloc (.cells #[.bool s, .slice A l.length a, .slice B k.length b] 28)).alloc (.cells #[.bool false, .slice none 0 0] 25)).cell? ⟨w.heap.size, 2, none⟩ = some (.slice B k.length b) := ⟨bA.c0, bA.c1, bA.c2⟩
  have HS := Lib.hid hs0
  have HCK := Lib.hid hck
  have HB0 := Lib.hid hB0
  rw [show (w.alloc (.cells #[.bool s, .slice A l.length a, .slice B k.length b] 28)).heap.size = w.heap.size + 1 by simp] at bR
  have BR := Lib.hid bR
  obtain ⟨a0, a1, a2, _, _, _, _⟩ := bA
  clear u1 u2 q1 q2 hp hz hB hB0 bR hck e0 hs0
  go_enter Tryz.func19, Tryz.ntmps19
  go_wp2_with fail
  refine HCK.out.mono ?_
  rintro e w1 ⟨rfl, hc1⟩
  have hs := keep3 (keep3 HS.out hc1) (Below.refl _ _).drew
  have Hc := Lib.hid ((from_ HB0.out hc1).drew)
  have HR := Lib.hid ((BR.out.below hc1).below (Below.refl _ _).drew)
  clear a0 a1 a2 HS HB0 BR HCK hc1
  go_wp2
  have N1 := Lib.hid (show w.heap.size + 1 ≠ w.heap.size by omega)
  go_region_held3 (fun w' => w'.cell? ⟨w.heap.size, 0, none⟩ = some (.bool s) ∧ w'.cell? ⟨w.heap.size, 1, none⟩ = some (.slice A l.length a) ∧ w'.cell? ⟨w.heap.size, 2, none⟩ = some (.slice B k.length b))
    (first
      | with_reducible exact hs
      | with_reducible exact stI N1.out hs)
    (first
      | (go_at_call 38; with_reducible refine (Dn.out _).mono ?_; rintro e w' ⟨rfl, hc⟩; replace hs := keep3 hs hc; replace HR := Lib.hid (HR.out.below hc); replace Hc := Lib.hid (from_ Hc.out hc))
      | (go_at_call 48; with_reducible refine (CF.out _ Hc.out).mono ?_; rintro e w' ⟨Av, cv, rfl, v3, hc⟩; replace hs := keep3 hs hc; have zl := HR.out.lt; replace HR := Lib.hid (HR.out.below hc); replace Hc := Lib.hid (from_ Hc.out hc); obtain ⟨qq0, qq1, ff0, ff1, _⟩ := id HR.out))
  all_goals
    have HP := Lib.hid (HR.out.put Hc.out (by omega) (.bool r) (.slice Av m.length cv))
    have hiv : IsU _ _ (.slice Av m.length cv) m := ⟨Av, cv, rfl, v3⟩
    have Hu := Lib.hid (HP.out.keep zl hiv)
    clear hiv v3
    go_wp2
    refine bodyPost_ret (res_int2 rfl _ (w.heap.size + 1) rfl HP.out.c0 HP.out.c1) rfl ?_
    obtain ⟨A', c', e', h'⟩ := Hu.out
    injection e' with e1 e2 e3
    subst e1 e3
    exact ⟨_, _, rfl, h', HP.out.bel⟩

end Go.Proofs.YtbcplffdoejniaaGreatDoor
