/-
  Fractions: what rat.Add, Mul and Div hand to joined. No conditions but bounds on lengths.
  Fractions: rat.joined; rat.Add, Mul and Div of fractions, and of what is none. No conditions but bounds on lengths.
  Fractions: rat.Add, Mul and Div by name. No conditions but bounds on lengths.
  Fractions: errors; rat.Sub, Cmp, Floor, Ceil. No conditions but bounds on lengths.
  Fractions: rat.Cmp, Floor, Ceil. No conditions but bounds on lengths.
  The document's own answer, layer 5: Down, Floor, Ceil, Exact. No conditions but bounds on lengths.
  Fractions of the document: Low, times, Sum, Times, Turned by name. No conditions but bounds on lengths.
-/
import Derived.Deep.RegionHeld3
import Derived.Test.YtceenaegchlbcaaGreatDoorERatG
import Derived.Test.YtceenaegchlbcaaGreatDoorEWhU
import Derived.Test.YtceenaegchlbcaaGreatDoorERatC
import Derived.Test.YtceenaegchlbcaaGreatDoorEW5G
namespace Go.Proofs.YtceenaegchlbcaaGreatDoor
open Go.RowKit
set_option linter.unusedVariables false
set_option linter.unusedSimpArgs false

theorem boxQ_keep {W W' : World} {g h : Nat} {x0 x1 x2 y0 y1 y2 : Value} (hs : W.cell? ⟨g, 0, none⟩ = some (x0) ∧ W.cell? ⟨g, 1, none⟩ = some (x1) ∧ W.cell? ⟨g, 2, none⟩ = some (x2) ∧ W.cell? ⟨h, 0, none⟩ = some (y0) ∧ W.cell? ⟨h, 1, none⟩ = some (y1) ∧ W.cell? ⟨h, 2, none⟩ = some (y2)) (hb : Below W.heap.size W W') : W'.cell? ⟨g, 0, none⟩ = some (x0) ∧ W'.cell? ⟨g, 1, none⟩ = some (x1) ∧ W'.cell? ⟨g, 2, none⟩ = some (x2) ∧ W'.cell? ⟨h, 0, none⟩ = some (y0) ∧ W'.cell? ⟨h, 1, none⟩ = some (y1) ∧ W'.cell? ⟨h, 2, none⟩ = some (y2) := by
  obtain ⟨h0, h1, h2, h3, h4, h5⟩ := hs
  exact ⟨keepC hb h0, keepC hb h1, keepC hb h2, keepC hb h3, keepC hb h4, keepC hb h5⟩
theorem stQ2 {W : World} {g r i : Nat} {v x y : Value} (h : W.cell? ⟨g, i, none⟩ = some v) (hn : r ≠ g) : ((W.setCell ⟨r, 0, none⟩ x).setCell ⟨r, 1, none⟩ y).cell? ⟨g, i, none⟩ = some v := by
  rw [World.cell?_setCell_other _ _ _ _ (fun e => hn (by injection e)), World.cell?_setCell_other _ _ _ _ (fun e => hn (by injection e))]
  exact h
theorem boxQ_st2 {W : World} {g h r : Nat} {x0 x1 x2 y0 y1 y2 x y : Value} (hg : r ≠ g) (hh : r ≠ h) (hs : W.cell? ⟨g, 0, none⟩ = some (x0) ∧ W.cell? ⟨g, 1, none⟩ = some (x1) ∧ W.cell? ⟨g, 2, none⟩ = some (x2) ∧ W.cell? ⟨h, 0, none⟩ = some (y0) ∧ W.cell? ⟨h, 1, none⟩ = some (y1) ∧ W.cell? ⟨h, 2, none⟩ = some (y2)) :
    let V := (W.setCell ⟨r, 0, none⟩ x).setCell ⟨r, 1, none⟩ y
    V.cell? ⟨g, 0, none⟩ = some (x0) ∧ V.cell? ⟨g, 1, none⟩ = some (x1) ∧ V.cell? ⟨g, 2, none⟩ = some (x2) ∧ V.cell? ⟨h, 0, none⟩ = some (y0) ∧ V.cell? ⟨h, 1, none⟩ = some (y1) ∧ V.cell? ⟨h, 2, none⟩ = some (y2) := by
  obtain ⟨h0, h1, h2, h3, h4, h5⟩ := hs
  exact ⟨stQ2 h0 hg, stQ2 h1 hg, stQ2 h2 hg, stQ2 h3 hh, stQ2 h4 hh, stQ2 h5 hh⟩

set_option maxRecDepth 100000 in
set_option maxHeartbeats 2000000 in
theorem radd1 {w : World} {Z1 Z2 Z3 Z4 : Zone} {p q : Rat} {s t r : Bool} {l k l' k' m : List Nat} {A B C D : Option Addr} {a b c d g h : Nat} (hs : w.cell? ⟨g, 0, none⟩ = some (.bool s) ∧ w.cell? ⟨g, 1, none⟩ = some (.slice A l.length a) ∧ w.cell? ⟨g, 2, none⟩ = some (.slice B k.length b) ∧ w.cell? ⟨h, 0, none⟩ = some (.bool t) ∧ w.cell? ⟨h, 1, none⟩ = some (.slice C l'.length c) ∧ w.cell? ⟨h, 2, none⟩ = some (.slice D k'.length d)) (hp : NmQ p s l k) (hq : NmQ q t l' k') (hz : Nm (p.num * (q.den : Int) + q.num * (p.den : Int)) r m) (q1 : l.length ≤ 20000) (q2 : k.length ≤ 20000) (q3 : l'.length ≤ 20000) (q4 : k'.length ≤ 20000) (u1 : U64s w Z1 A a l) (u2 : U64s w Z2 B b k) (u3 : U64s w Z3 C c l') (u4 : U64s w Z4 D d k') :
    Calls Tryz.prog 76 #[.pointer (some ⟨g, 0, none⟩), .pointer (some ⟨h, 0, none⟩)] w fun e w' => ∃ Av cv, e = .returned (.agg #[.bool r, .slice Av m.length cv]) ∧ U64s w' (new w.heap.size) Av cv m ∧ Below w.heap.size w w' := by
  have hB0 : Below w.heap.size w (w.alloc (.cells #[.bool false, .slice none 0 0] 36)) := (Below.refl _ w).alloc (Nat.le_refl _) _
  have bR := Box.new w (.bool false) (.slice none 0 0) 36
  have hg : g < w.heap.size := lt_of_cell hs.1
  have hh : h < w.heap.size := lt_of_cell hs.2.2.2.1
  have N1 := Lib.hid (show w.heap.size ≠ g by omega)
  have N2 := Lib.hid (show w.heap.size ≠ h by omega)
  replace hs := boxQ_keep hs hB0.drew
  have Hc := Lib.hid hB0.drew
  have HR := Lib.hid (bR.below (Below.refl _ _).drew)
  have Da := Lib.hid (fun (W : World) => rden_n (w := W) (s := s) (l := l) (k := k) (A := A) (B := B) (c := a) (d := b))
  have Db := Lib.hid (fun (W : World) => rden_n (w := W) (s := t) (l := l') (k := k') (A := C) (B := D) (c := c) (d := d))
  obtain ⟨r0, m0, z0⟩ : ∃ s l, Nm (p.num * (q.den : Int)) s l := ⟨_, _, Nm.mk' _⟩
  have P0 := Lib.hid (fun (W : World) (hW : Below w.heap.size w W) => rprod_n hp.num hq.den z0 rfl (by omega) (by omega) (u1.below hW) (u4.below hW))
  obtain ⟨r1, m1, z1⟩ : ∃ s l, Nm (q.num * (p.den : Int)) s l := ⟨_, _, Nm.mk' _⟩
  have P1 := Lib.hid (fun (W : World) (hW : Below w.heap.size w W) => rprod_n hq.num hp.den z1 rfl (by omega) (by omega) (u3.below hW) (u2.below hW))
  have e0 := lz_mul (p.num) ((q.den : Int))
  have e1 := lz_mul (q.num) ((p.den : Int))
  have f0 := z0.len
  have f1 := z1.len
  have f2 := hp.num.len
  have f3 := hp.den.len
  have f4 := hq.num.len
  have f5 := hq.den.len
  have PS := Lib.hid (fun (W : World) (Y1 Y2 : Zone) (A1 A2 : Option Addr) (c1 c2 : Nat) (h1 : U64s W Y1 A1 c1 m0) (h2 : U64s W Y2 A2 c2 m1) => rsum_n z0 z1 hz rfl (by omega) (by omega) h1 h2)
  clear e0 e1 f0 f1 f2 f3 f4 f5 z0 z1
  clear bR hB0 hg hh hp hq hz q1 q2 q3 q4 u1 u2 u3 u4
  go_enter Tryz.func76, Tryz.ntmps76
  go_wp2
  go_region_held3 (fun w' => w'.cell? ⟨g, 0, none⟩ = some (.bool s) ∧ w'.cell? ⟨g, 1, none⟩ = some (.slice A l.length a) ∧ w'.cell? ⟨g, 2, none⟩ = some (.slice B k.length b) ∧ w'.cell? ⟨h, 0, none⟩ = some (.bool t) ∧ w'.cell? ⟨h, 1, none⟩ = some (.slice C l'.length c) ∧ w'.cell? ⟨h, 2, none⟩ = some (.slice D k'.length d))
    (first
      | with_reducible exact hs
      | with_reducible exact boxQ_st2 N1.out N2.out hs)
    (first
      | (go_at_call 79; with_reducible refine (Db.out _).mono ?_; rintro e w' ⟨rfl, hc⟩; replace hs := boxQ_keep hs hc; replace HR := Lib.hid (HR.out.below hc); replace Hc := Lib.hid (from_ Hc.out hc))
      | (go_at_call 78; with_reducible refine (P0.out _ Hc.out).mono ?_; rintro e w' ⟨A1, c1, rfl, o1, hc⟩; replace hs := boxQ_keep hs hc; replace HR := Lib.hid (HR.out.below hc); replace Hc := Lib.hid (from_ Hc.out hc))
      | (go_at_call 79; with_reducible refine (Da.out _).mono ?_; rintro e w' ⟨rfl, hc⟩; replace hs := boxQ_keep hs hc; replace HR := Lib.hid (HR.out.below hc); replace Hc := Lib.hid (from_ Hc.out hc); replace o1 := o1.below hc)
      | (go_at_call 78; with_reducible refine (P1.out _ Hc.out).mono ?_; rintro e w' ⟨A2, c2, rfl, o2, hc⟩; replace hs := boxQ_keep hs hc; replace HR := Lib.hid (HR.out.below hc); replace Hc := Lib.hid (from_ Hc.out hc); replace o1 := o1.below hc)
      | (go_at_call 77; with_reducible refine (PS.out _ _ _ _ _ _ _ o1 o2).mono ?_; rintro e w' ⟨Av, cv, rfl, o9, hc⟩; replace hs := boxQ_keep hs hc; have zl := HR.out.lt; replace HR := Lib.hid (HR.out.below hc); have Hp := Hc; replace Hc := Lib.hid (from_ Hc.out hc); obtain ⟨qq0, qq1, ff0, ff1, _⟩ := id HR.out))
  all_goals
    have HP := Lib.hid (HR.out.put Hc.out (Nat.le_refl _) (.bool r) (.slice Av m.length cv))
    have hiv : IsU _ _ (.slice Av m.length cv) m := ⟨Av, cv, rfl, o9⟩
    have Hu := Lib.hid (HP.out.keep zl hiv)
    clear hiv o9
    go_wp2
    refine bodyPost_ret (res_int rfl _ w.heap.size rfl HP.out.c0 HP.out.c1) rfl ?_
    obtain ⟨A', c', e', h'⟩ := Hu.out
    injection e' with e1 e2 e3
    subst e1 e3
    exact ⟨_, _, rfl, h', HP.out.bel⟩

set_option maxRecDepth 100000 in
set_option maxHeartbeats 2000000 in
theorem radd2 {w : World} {Z1 Z2 Z3 Z4 : Zone} {p q : Rat} {s t r : Bool} {l k l' k' m : List Nat} {A B C D : Option Addr} {a b c d g h : Nat} (hs : w.cell? ⟨g, 0, none⟩ = some (.bool s) ∧ w.cell? ⟨g, 1, none⟩ = some (.slice A l.length a) ∧ w.cell? ⟨g, 2, none⟩ = some (.slice B k.length b) ∧ w.cell? ⟨h, 0, none⟩ = some (.bool t) ∧ w.cell? ⟨h, 1, none⟩ = some (.slice C l'.length c) ∧ w.cell? ⟨h, 2, none⟩ = some (.slice D k'.length d)) (hp : NmQ p s l k) (hq : NmQ q t l' k') (hz : Nm ((p.den : Int) * (q.den : Int)) r m) (q1 : l.length ≤ 20000) (q2 : k.length ≤ 20000) (q3 : l'.length ≤ 20000) (q4 : k'.length ≤ 20000) (u1 : U64s w Z1 A a l) (u2 : U64s w Z2 B b k) (u3 : U64s w Z3 C c l') (u4 : U64s w Z4 D d k') :
    Calls Tryz.prog 80 #[.pointer (some ⟨g, 0, none⟩), .pointer (some ⟨h, 0, none⟩)] w fun e w' => ∃ Av cv, e = .returned (.agg #[.bool r, .slice Av m.length cv]) ∧ U64s w' (new w.heap.size) Av cv m ∧ Below w.heap.size w w' := by
  have hB0 : Below w.heap.size w (w.alloc (.cells #[.bool false, .slice none 0 0] 36)) := (Below.refl _ w).alloc (Nat.le_refl _) _
  have bR := Box.new w (.bool false) (.slice none 0 0) 36
  have hg : g < w.heap.size := lt_of_cell hs.1
  have hh : h < w.heap.size := lt_of_cell hs.2.2.2.1
  have N1 := Lib.hid (show w.heap.size ≠ g by omega)
  have N2 := Lib.hid (show w.heap.size ≠ h by omega)
  replace hs := boxQ_keep hs hB0.drew
  have Hc := Lib.hid hB0.drew
  have HR := Lib.hid (bR.below (Below.refl _ _).drew)
  have Da := Lib.hid (fun (W : World) => rden_n (w := W) (s := s) (l := l) (k := k) (A := A) (B := B) (c := a) (d := b))
  have Db := Lib.hid (fun (W : World) => rden_n (w := W) (s := t) (l := l') (k := k') (A := C) (B := D) (c := c) (d := d))
  have P0 := Lib.hid (fun (W : World) (hW : Below w.heap.size w W) => rprod_n hp.den hq.den hz rfl (by omega) (by omega) (u2.below hW) (u4.below hW))
  clear bR hB0 hg hh hp hq hz q1 q2 q3 q4 u1 u2 u3 u4
  go_enter Tryz.func80, Tryz.ntmps80
  go_wp2
  go_region_held3 (fun w' => w'.cell? ⟨g, 0, none⟩ = some (.bool s) ∧ w'.cell? ⟨g, 1, none⟩ = some (.slice A l.length a) ∧ w'.cell? ⟨g, 2, none⟩ = some (.slice B k.length b) ∧ w'.cell? ⟨h, 0, none⟩ = some (.bool t) ∧ w'.cell? ⟨h, 1, none⟩ = some (.slice C l'.length c) ∧ w'.cell? ⟨h, 2, none⟩ = some (.slice D k'.length d))
    (first
      | with_reducible exact hs
      | with_reducible exact boxQ_st2 N1.out N2.out hs)
    (first
      | (go_at_call 79; with_reducible refine (Da.out _).mono ?_; rintro e w' ⟨rfl, hc⟩; replace hs := boxQ_keep hs hc; replace HR := Lib.hid (HR.out.below hc); replace Hc := Lib.hid (from_ Hc.out hc))
      | (go_at_call 79; with_reducible refine (Db.out _).mono ?_; rintro e w' ⟨rfl, hc⟩; replace hs := boxQ_keep hs hc; replace HR := Lib.hid (HR.out.below hc); replace Hc := Lib.hid (from_ Hc.out hc))
      | (go_at_call 78; with_reducible refine (P0.out _ Hc.out).mono ?_; rintro e w' ⟨Av, cv, rfl, o9, hc⟩; replace hs := boxQ_keep hs hc; have zl := HR.out.lt; replace HR := Lib.hid (HR.out.below hc); have Hp := Hc; replace Hc := Lib.hid (from_ Hc.out hc); obtain ⟨qq0, qq1, ff0, ff1, _⟩ := id HR.out))
  all_goals
    have HP := Lib.hid (HR.out.put Hc.out (Nat.le_refl _) (.bool r) (.slice Av m.length cv))
    have hiv : IsU _ _ (.slice Av m.length cv) m := ⟨Av, cv, rfl, o9⟩
    have Hu := Lib.hid (HP.out.keep zl hiv)
    clear hiv o9
    go_wp2
    refine bodyPost_ret (res_int rfl _ w.heap.size rfl HP.out.c0 HP.out.c1) rfl ?_
    obtain ⟨A', c', e', h'⟩ := Hu.out
    injection e' with e1 e2 e3
    subst e1 e3
    exact ⟨_, _, rfl, h', HP.out.bel⟩

set_option maxRecDepth 100000 in
set_option maxHeartbeats 2000000 in
theorem rmul2 {w : World} {Z1 Z2 Z3 Z4 : Zone} {p q : Rat} {s t r : Bool} {l k l' k' m : List Nat} {A B C D : Option Addr} {a b c d g h : Nat} (hs : w.cell? ⟨g, 0, none⟩ = some (.bool s) ∧ w.cell? ⟨g, 1, none⟩ = some (.slice A l.length a) ∧ w.cell? ⟨g, 2, none⟩ = some (.slice B k.length b) ∧ w.cell? ⟨h, 0, none⟩ = some (.bool t) ∧ w.cell? ⟨h, 1, none⟩ = some (.slice C l'.length c) ∧ w.cell? ⟨h, 2, none⟩ = some (.slice D k'.length d)) (hp : NmQ p s l k) (hq : NmQ q t l' k') (hz : Nm ((p.den : Int) * (q.den : Int)) r m) (q1 : l.length ≤ 20000) (q2 : k.length ≤ 20000) (q3 : l'.length ≤ 20000) (q4 : k'.length ≤ 20000) (u1 : U64s w Z1 A a l) (u2 : U64s w Z2 B b k) (u3 : U64s w Z3 C c l') (u4 : U64s w Z4 D d k') :
    Calls Tryz.prog 87 #[.pointer (some ⟨g, 0, none⟩), .pointer (some ⟨h, 0, none⟩)] w fun e w' => ∃ Av cv, e = .returned (.agg #[.bool r, .slice Av m.length cv]) ∧ U64s w' (new w.heap.size) Av cv m ∧ Below w.heap.size w w' := by
  have hB0 : Below w.heap.size w (w.alloc (.cells #[.bool false, .slice none 0 0] 36)) := (Below.refl _ w).alloc (Nat.le_refl _) _
  have bR := Box.new w (.bool false) (.slice none 0 0) 36
  have hg : g < w.heap.size := lt_of_cell hs.1
  have hh : h < w.heap.size := lt_of_cell hs.2.2.2.1
  have N1 := Lib.hid (show w.heap.size ≠ g by omega)
  have N2 := Lib.hid (show w.heap.size ≠ h by omega)
  replace hs := boxQ_keep hs hB0.drew
  have Hc := Lib.hid hB0.drew
  have HR := Lib.hid (bR.below (Below.refl _ _).drew)
  have Da := Lib.hid (fun (W : World) => rden_n (w := W) (s := s) (l := l) (k := k) (A := A) (B := B) (c := a) (d := b))
  have Db := Lib.hid (fun (W : World) => rden_n (w := W) (s := t) (l := l') (k := k') (A := C) (B := D) (c := c) (d := d))
  have P0 := Lib.hid (fun (W : World) (hW : Below w.heap.size w W) => rprod_n hp.den hq.den hz rfl (by omega) (by omega) (u2.below hW) (u4.below hW))
  clear bR hB0 hg hh hp hq hz q1 q2 q3 q4 u1 u2 u3 u4
  go_enter Tryz.func87, Tryz.ntmps87
  go_wp2
  go_region_held3 (fun w' => w'.cell? ⟨g, 0, none⟩ = some (.bool s) ∧ w'.cell? ⟨g, 1, none⟩ = some (.slice A l.length a) ∧ w'.cell? ⟨g, 2, none⟩ = some (.slice B k.length b) ∧ w'.cell? ⟨h, 0, none⟩ = some (.bool t) ∧ w'.cell? ⟨h, 1, none⟩ = some (.slice C l'.length c) ∧ w'.cell? ⟨h, 2, none⟩ = some (.slice D k'.length d))
    (first
      | with_reducible exact hs
      | with_reducible exact boxQ_st2 N1.out N2.out hs)
    (first
      | (go_at_call 79; with_reducible refine (Da.out _).mono ?_; rintro e w' ⟨rfl, hc⟩; replace hs := boxQ_keep hs hc; replace HR := Lib.hid (HR.out.below hc); replace Hc := Lib.hid (from_ Hc.out hc))
      | (go_at_call 79; with_reducible refine (Db.out _).mono ?_; rintro e w' ⟨rfl, hc⟩; replace hs := boxQ_keep hs hc; replace HR := Lib.hid (HR.out.below hc); replace Hc := Lib.hid (from_ Hc.out hc))
      | (go_at_call 78; with_reducible refine (P0.out _ Hc.out).mono ?_; rintro e w' ⟨Av, cv, rfl, o9, hc⟩; replace hs := boxQ_keep hs hc; have zl := HR.out.lt; replace HR := Lib.hid (HR.out.below hc); have Hp := Hc; replace Hc := Lib.hid (from_ Hc.out hc); obtain ⟨qq0, qq1, ff0, ff1, _⟩ := id HR.out))
  all_goals
    have HP := Lib.hid (HR.out.put Hc.out (Nat.le_refl _) (.bool r) (.slice Av m.length cv))
    have hiv : IsU _ _ (.slice Av m.length cv) m := ⟨Av, cv, rfl, o9⟩
    have Hu := Lib.hid (HP.out.keep zl hiv)
    clear hiv o9
    go_wp2
    refine bodyPost_ret (res_int rfl _ w.heap.size rfl HP.out.c0 HP.out.c1) rfl ?_
    obtain ⟨A', c', e', h'⟩ := Hu.out
    injection e' with e1 e2 e3
    subst e1 e3
    exact ⟨_, _, rfl, h', HP.out.bel⟩

set_option maxRecDepth 100000 in
set_option maxHeartbeats 2000000 in
theorem rdiv1 {w : World} {Z1 Z2 Z3 Z4 : Zone} {p q : Rat} {s t r : Bool} {l k l' k' m : List Nat} {A B C D : Option Addr} {a b c d g h : Nat} (hs : w.cell? ⟨g, 0, none⟩ = some (.bool s) ∧ w.cell? ⟨g, 1, none⟩ = some (.slice A l.length a) ∧ w.cell? ⟨g, 2, none⟩ = some (.slice B k.length b) ∧ w.cell? ⟨h, 0, none⟩ = some (.bool t) ∧ w.cell? ⟨h, 1, none⟩ = some (.slice C l'.length c) ∧ w.cell? ⟨h, 2, none⟩ = some (.slice D k'.length d)) (hp : NmQ p s l k) (hq : NmQ q t l' k') (hz : Nm (p.num * (q.den : Int)) r m) (q1 : l.length ≤ 20000) (q2 : k.length ≤ 20000) (q3 : l'.length ≤ 20000) (q4 : k'.length ≤ 20000) (u1 : U64s w Z1 A a l) (u2 : U64s w Z2 B b k) (u3 : U64s w Z3 C c l') (u4 : U64s w Z4 D d k') :
    Calls Tryz.prog 89 #[.pointer (some ⟨g, 0, none⟩), .pointer (some ⟨h, 0, none⟩)] w fun e w' => ∃ Av cv, e = .returned (.agg #[.bool r, .slice Av m.length cv]) ∧ U64s w' (new w.heap.size) Av cv m ∧ Below w.heap.size w w' := by
  have hB0 : Below w.heap.size w (w.alloc (.cells #[.bool false, .slice none 0 0] 36)) := (Below.refl _ w).alloc (Nat.le_refl _) _
  have bR := Box.new w (.bool false) (.slice none 0 0) 36
  have hg : g < w.heap.size := lt_of_cell hs.1
  have hh : h < w.heap.size := lt_of_cell hs.2.2.2.1
  have N1 := Lib.hid (show w.heap.size ≠ g by omega)
  have N2 := Lib.hid (show w.heap.size ≠ h by omega)
  replace hs := boxQ_keep hs hB0.drew
  have Hc := Lib.hid hB0.drew
  have HR := Lib.hid (bR.below (Below.refl _ _).drew)
  have Da := Lib.hid (fun (W : World) => rden_n (w := W) (s := s) (l := l) (k := k) (A := A) (B := B) (c := a) (d := b))
  have Db := Lib.hid (fun (W : World) => rden_n (w := W) (s := t) (l := l') (k := k') (A := C) (B := D) (c := c) (d := d))
  have P0 := Lib.hid (fun (W : World) (hW : Below w.heap.size w W) => rprod_n hp.num hq.den hz rfl (by omega) (by omega) (u1.below hW) (u4.below hW))
  clear bR hB0 hg hh hp hq hz q1 q2 q3 q4 u1 u2 u3 u4
  go_enter Tryz.func89, Tryz.ntmps89
  go_wp2
  go_region_held3 (fun w' => w'.cell? ⟨g, 0, none⟩ = some (.bool s) ∧ w'.cell? ⟨g, 1, none⟩ = some (.slice A l.length a) ∧ w'.cell? ⟨g, 2, none⟩ = some (.slice B k.length b) ∧ w'.cell? ⟨h, 0, none⟩ = some (.bool t) ∧ w'.cell? ⟨h, 1, none⟩ = some (.slice C l'.length c) ∧ w'.cell? ⟨h, 2, none⟩ = some (.slice D k'.length d))
    (first
      | with_reducible exact hs
      | with_reducible exact boxQ_st2 N1.out N2.out hs)
    (first
      | (go_at_call 79; with_reducible refine (Db.out _).mono ?_; rintro e w' ⟨rfl, hc⟩; replace hs := boxQ_keep hs hc; replace HR := Lib.hid (HR.out.below hc); replace Hc := Lib.hid (from_ Hc.out hc))
      | (go_at_call 78; with_reducible refine (P0.out _ Hc.out).mono ?_; rintro e w' ⟨Av, cv, rfl, o9, hc⟩; replace hs := boxQ_keep hs hc; have zl := HR.out.lt; replace HR := Lib.hid (HR.out.below hc); have Hp := Hc; replace Hc := Lib.hid (from_ Hc.out hc); obtain ⟨qq0, qq1, ff0, ff1, _⟩ := id HR.out))
  all_goals
    have HP := Lib.hid (HR.out.put Hc.out (Nat.le_refl _) (.bool r) (.slice Av m.length cv))
    have hiv : IsU _ _ (.slice Av m.length cv) m := ⟨Av, cv, rfl, o9⟩
    have Hu := Lib.hid (HP.out.keep zl hiv)
    clear hiv o9
    go_wp2
    refine bodyPost_ret (res_int rfl _ w.heap.size rfl HP.out.c0 HP.out.c1) rfl ?_
    obtain ⟨A', c', e', h'⟩ := Hu.out
    injection e' with e1 e2 e3
    subst e1 e3
    exact ⟨_, _, rfl, h', HP.out.bel⟩

set_option maxRecDepth 100000 in
set_option maxHeartbeats 2000000 in
theorem rdiv2 {w : World} {Z1 Z2 Z3 Z4 : Zone} {p q : Rat} {s t r : Bool} {l k l' k' m : List Nat} {A B C D : Option Addr} {a b c d g h : Nat} (hs : w.cell? ⟨g, 0, none⟩ = some (.bool s) ∧ w.cell? ⟨g, 1, none⟩ = some (.slice A l.length a) ∧ w.cell? ⟨g, 2, none⟩ = some (.slice B k.length b) ∧ w.cell? ⟨h, 0, none⟩ = some (.bool t) ∧ w.cell? ⟨h, 1, none⟩ = some (.slice C l'.length c) ∧ w.cell? ⟨h, 2, none⟩ = some (.slice D k'.length d)) (hp : NmQ p s l k) (hq : NmQ q t l' k') (hz : Nm ((p.den : Int) * q.num) r m) (q1 : l.length ≤ 20000) (q2 : k.length ≤ 20000) (q3 : l'.length ≤ 20000) (q4 : k'.length ≤ 20000) (u1 : U64s w Z1 A a l) (u2 : U64s w Z2 B b k) (u3 : U64s w Z3 C c l') (u4 : U64s w Z4 D d k') :
    Calls Tryz.prog 90 #[.pointer (some ⟨g, 0, none⟩), .pointer (some ⟨h, 0, none⟩)] w fun e w' => ∃ Av cv, e = .returned (.agg #[.bool r, .slice Av m.length cv]) ∧ U64s w' (new w.heap.size) Av cv m ∧ Below w.heap.size w w' := by
  have hB0 : Below w.heap.size w (w.alloc (.cells #[.bool false, .slice none 0 0] 36)) := (Below.refl _ w).alloc (Nat.le_refl _) _
  have bR := Box.new w (.bool false) (.slice none 0 0) 36
  have hg : g < w.heap.size := lt_of_cell hs.1
  have hh : h < w.heap.size := lt_of_cell hs.2.2.2.1
  have N1 := Lib.hid (show w.heap.size ≠ g by omega)
  have N2 := Lib.hid (show w.heap.size ≠ h by omega)
  replace hs := boxQ_keep hs hB0.drew
  have Hc := Lib.hid hB0.drew
  have HR := Lib.hid (bR.below (Below.refl _ _).drew)
  have Da := Lib.hid (fun (W : World) => rden_n (w := W) (s := s) (l := l) (k := k) (A := A) (B := B) (c := a) (d := b))
  have Db := Lib.hid (fun (W : World) => rden_n (w := W) (s := t) (l := l') (k := k') (A := C) (B := D) (c := c) (d := d))
  have P0 := Lib.hid (fun (W : World) (hW : Below w.heap.size w W) => rprod_n hp.den hq.num hz rfl (by omega) (by omega) (u2.below hW) (u3.below hW))
  clear bR hB0 hg hh hp hq hz q1 q2 q3 q4 u1 u2 u3 u4
  go_enter Tryz.func90, Tryz.ntmps90
  go_wp2
  go_region_held3 (fun w' => w'.cell? ⟨g, 0, none⟩ = some (.bool s) ∧ w'.cell? ⟨g, 1, none⟩ = some (.slice A l.length a) ∧ w'.cell? ⟨g, 2, none⟩ = some (.slice B k.length b) ∧ w'.cell? ⟨h, 0, none⟩ = some (.bool t) ∧ w'.cell? ⟨h, 1, none⟩ = some (.slice C l'.length c) ∧ w'.cell? ⟨h, 2, none⟩ = some (.slice D k'.length d))
    (first
      | with_reducible exact hs
      | with_reducible exact boxQ_st2 N1.out N2.out hs)
    (first
      | (go_at_call 79; with_reducible refine (Da.out _).mono ?_; rintro e w' ⟨rfl, hc⟩; replace hs := boxQ_keep hs hc; replace HR := Lib.hid (HR.out.below hc); replace Hc := Lib.hid (from_ Hc.out hc))
      | (go_at_call 78; with_reducible refine (P0.out _ Hc.out).mono ?_; rintro e w' ⟨Av, cv, rfl, o9, hc⟩; replace hs := boxQ_keep hs hc; have zl := HR.out.lt; replace HR := Lib.hid (HR.out.below hc); have Hp := Hc; replace Hc := Lib.hid (from_ Hc.out hc); obtain ⟨qq0, qq1, ff0, ff1, _⟩ := id HR.out))
  all_goals
    have HP := Lib.hid (HR.out.put Hc.out (Nat.le_refl _) (.bool r) (.slice Av m.length cv))
    have hiv : IsU _ _ (.slice Av m.length cv) m := ⟨Av, cv, rfl, o9⟩
    have Hu := Lib.hid (HP.out.keep zl hiv)
    clear hiv o9
    go_wp2
    refine bodyPost_ret (res_int rfl _ w.heap.size rfl HP.out.c0 HP.out.c1) rfl ?_
    obtain ⟨A', c', e', h'⟩ := Hu.out
    injection e' with e1 e2 e3
    subst e1 e3
    exact ⟨_, _, rfl, h', HP.out.bel⟩

set_option maxRecDepth 100000 in
set_option maxHeartbeats 2000000 in
theorem rmul1 {w : World} {Z1 Z2 Z3 Z4 : Zone} {p q : Rat} {s t r : Bool} {l k l' k' m : List Nat} {A B C D : Option Addr} {a b c d g h : Nat} (hs : w.cell? ⟨g, 0, none⟩ = some (.bool s) ∧ w.cell? ⟨g, 1, none⟩ = some (.slice A l.length a) ∧ w.cell? ⟨g, 2, none⟩ = some (.slice B k.length b) ∧ w.cell? ⟨h, 0, none⟩ = some (.bool t) ∧ w.cell? ⟨h, 1, none⟩ = some (.slice C l'.length c) ∧ w.cell? ⟨h, 2, none⟩ = some (.slice D k'.length d)) (hp : NmQ p s l k) (hq : NmQ q t l' k') (hz : Nm (p.num * q.num) r m) (q1 : l.length ≤ 20000) (q2 : k.length ≤ 20000) (q3 : l'.length ≤ 20000) (q4 : k'.length ≤ 20000) (u1 : U64s w Z1 A a l) (u2 : U64s w Z2 B b k) (u3 : U64s w Z3 C c l') (u4 : U64s w Z4 D d k') :
    Calls Tryz.prog 86 #[.pointer (some ⟨g, 0, none⟩), .pointer (some ⟨h, 0, none⟩)] w fun e w' => ∃ Av cv, e = .returned (.agg #[.bool r, .slice Av m.length cv]) ∧ U64s w' (new w.heap.size) Av cv m ∧ Below w.heap.size w w' := by
  have hB0 : Below w.heap.size w (w.alloc (.cells #[.bool false, .slice none 0 0] 36)) := (Below.refl _ w).alloc (Nat.le_refl _) _
  have bR := Box.new w (.bool false) (.slice none 0 0) 36
  have hg : g < w.heap.size := lt_of_cell hs.1
  have hh : h < w.heap.size := lt_of_cell hs.2.2.2.1
  have N1 := Lib.hid (show w.heap.size ≠ g by omega)
  have N2 := Lib.hid (show w.heap.size ≠ h by omega)
  replace hs := boxQ_keep hs hB0
  have Hc := Lib.hid hB0
  have HR := Lib.hid bR
  have Da := Lib.hid (fun (W : World) => rden_n (w := W) (s := s) (l := l) (k := k) (A := A) (B := B) (c := a) (d := b))
  have Db := Lib.hid (fun (W : World) => rden_n (w := W) (s := t) (l := l') (k := k') (A := C) (B := D) (c := c) (d := d))
  have P0 := Lib.hid (fun (W : World) (hW : Below w.heap.size w W) => rprod_n hp.num hq.num hz rfl (by omega) (by omega) (u1.below hW) (u3.below hW))
  clear bR hB0 hg hh hp hq hz q1 q2 q3 q4 u1 u2 u3 u4
  go_enter Tryz.func86, Tryz.ntmps86
  obtain ⟨a0, a1, a2, b0, b1, b2⟩ := hs
  go_wp2_with fail
  refine (P0.out _ Hc.out).mono ?_
  rintro e w1 ⟨Av, cv, rfl, o9, hc⟩
  have zl := HR.out.lt
  have HR1 := Lib.hid (HR.out.below hc)
  have Hc1 := Lib.hid (from_ Hc.out hc)
  have HP := Lib.hid (HR1.out.put Hc1.out (Nat.le_refl _) (.bool r) (.slice Av m.length cv))
  have hiv : IsU _ _ (.slice Av m.length cv) m := ⟨Av, cv, rfl, o9⟩
  have Hu := Lib.hid (HP.out.keep zl hiv)
  obtain ⟨q0, q1, f0, f1, _⟩ := id HR1.out
  clear hiv o9
  go_wp2
  refine bodyPost_ret (res_int rfl _ w.heap.size rfl HP.out.c0 HP.out.c1) rfl ?_
  obtain ⟨A', c', e', h'⟩ := Hu.out
  injection e' with e1 e2 e3
  subst e1 e3
  exact ⟨_, _, rfl, h', HP.out.bel⟩

end Go.Proofs.YtceenaegchlbcaaGreatDoor

namespace Go.Proofs.YtceenaegchlbcaaGreatDoor
open Go.RowKit
set_option linter.unusedVariables false
set_option linter.unusedSimpArgs false

theorem boxesQ (w : World) (a0 a1 a2 b0 b1 b2 c0 c1 c2 : Value) :
    Box3 (((w.alloc (.cells #[a0, a1, a2] 48)).alloc (.cells #[b0, b1, b2] 48)).alloc (.cells #[c0, c1, c2] 48)) w.heap.size a0 a1 a2 ∧
    Box3 (((w.alloc (.cells #[a0, a1, a2] 48)).alloc (.cells #[b0, b1, b2] 48)).alloc (.cells #[c0, c1, c2] 48)) (w.heap.size + 1) b0 b1 b2 ∧
    Box3 (((w.alloc (.cells #[a0, a1, a2] 48)).alloc (.cells #[b0, b1, b2] 48)).alloc (.cells #[c0, c1, c2] 48)) (w.heap.size + 2) c0 c1 c2 ∧
    Below w.heap.size w (((w.alloc (.cells #[a0, a1, a2] 48)).alloc (.cells #[b0, b1, b2] 48)).alloc (.cells #[c0, c1, c2] 48)) := by
  have h1 := ((Box3.new w a0 a1 a2 48).alloc (.cells #[b0, b1, b2] 48)).alloc (.cells #[c0, c1, c2] 48)
  have h2 := (Box3.new (w.alloc (.cells #[a0, a1, a2] 48)) b0 b1 b2 48).alloc (.cells #[c0, c1, c2] 48)
  have h3 := Box3.new ((w.alloc (.cells #[a0, a1, a2] 48)).alloc (.cells #[b0, b1, b2] 48)) c0 c1 c2 48
  rw [show (w.alloc (.cells #[a0, a1, a2] 48)).heap.size = w.heap.size + 1 by simp] at h2
  rw [show ((w.alloc (.cells #[a0, a1, a2] 48)).alloc (.cells #[b0, b1, b2] 48)).heap.size = w.heap.size + 2 by simp] at h3
  exact ⟨h1, h2, h3, (((Below.refl _ w).alloc (Nat.le_refl _) _).alloc (by simp) _).alloc (by simp; omega) _⟩

theorem errFs_two (p q : Fr) : errFs [p, q] = if p.ok = true ∧ q.ok = true then 0 else 8 := by
  unfold errFs
  simp only [List.all_cons, List.all_nil, Bool.and_true, Bool.and_eq_true]

theorem joinedHead {w : World} {Z1 Z2 Z3 Z4 : Zone} {s t : Bool} {l k l' k' : List Nat} {A B C D : Option Addr} {a b c d : Nat} (u1 : U64s w Z1 A a l) (u2 : U64s w Z2 B b k) (u3 : U64s w Z3 C c l') (u4 : U64s w Z4 D d k') (q1 : l.length ≤ 2000) (q2 : k.length ≤ 2000) (q3 : l'.length ≤ 2000) (q4 : k'.length ≤ 2000) {E : Int} (hE : errFs [⟨s, l, k⟩, ⟨t, l', k'⟩] = E) :
    Calls Tryz.prog 83 #[.func (.func 40) #[] #[], .slice (some ⟨w.heap.size + 3, 0, none⟩) 2 2] ((((w.alloc (.cells #[.bool s, .slice A l.length a, .slice B k.length b] 48)).alloc (.cells #[.bool t, .slice C l'.length c, .slice D k'.length d] 48)).alloc (.cells #[.bool false, .slice none 0 0, .slice none 0 0] 48)).alloc (.cells #[.bool s, .slice A l.length a, .slice B k.length b, .bool t, .slice C l'.length c, .slice D k'.length d] 48)) (fun e w' => e = .returned (.int .i64 E) ∧ Below ((((w.alloc (.cells #[.bool s, .slice A l.length a, .slice B k.length b] 48)).alloc (.cells #[.bool t, .slice C l'.length c, .slice D k'.length d] 48)).alloc (.cells #[.bool false, .slice none 0 0, .slice none 0 0] 48)).alloc (.cells #[.bool s, .slice A l.length a, .slice B k.length b, .bool t, .slice C l'.length c, .slice D k'.length d] 48)).heap.size ((((w.alloc (.cells #[.bool s, .slice A l.length a, .slice B k.length b] 48)).alloc (.cells #[.bool t, .slice C l'.length c, .slice D k'.length d] 48)).alloc (.cells #[.bool false, .slice none 0 0, .slice none 0 0] 48)).alloc (.cells #[.bool s, .slice A l.length a, .slice B k.length b, .bool t, .slice C l'.length c, .slice D k'.length d] 48)) w') := by
  obtain ⟨_, _, _, hB0⟩ := boxesQ w (.bool s) (.slice A l.length a) (.slice B k.length b) (.bool t) (.slice C l'.length c) (.slice D k'.length d) (.bool false) (.slice none 0 0) (.slice none 0 0)
  have hg := given_twoQ (s := s) (t := t) (ty := 48) (u1.below hB0) (u2.below hB0) (u3.below hB0) (u4.below hB0) (by omega) (by omega) (by omega) (by omega)
  have hck := ratcheckedQ_any (n := 2) (c := 2) hg rfl (by simp)
  rw [hE] at hck
  rw [show (((w.alloc (.cells #[.bool s, .slice A l.length a, .slice B k.length b] 48)).alloc (.cells #[.bool t, .slice C l'.length c, .slice D k'.length d] 48)).alloc (.cells #[.bool false, .slice none 0 0, .slice none 0 0] 48)).heap.size = w.heap.size + 3 by simp] at hck
  exact hck

set_option maxRecDepth 100000 in
set_option maxHeartbeats 2000000 in
theorem rjoin_Add {w : World} {Z1 Z2 Z3 Z4 : Zone} {s t : Bool} {l k l' k' : List Nat} {A B C D : Option Addr} {a b c d : Nat} {g0 h0 : Nat} {r1 r2 r : Bool} {m1 m2 la ld : List Nat} {E : Int} (u1 : U64s w Z1 A a l) (u2 : U64s w Z2 B b k) (u3 : U64s w Z3 C c l') (u4 : U64s w Z4 D d k') (q1 : l.length ≤ 2000) (q2 : k.length ≤ 2000) (q3 : l'.length ≤ 2000) (q4 : k'.length ≤ 2000) (o1 : okQ s l k = true) (o2 : okQ t l' k' = true)
    (HN : Hid (∀ W, Below w.heap.size w W → Calls Tryz.prog 76 #[.pointer (some ⟨g0, 0, none⟩), .pointer (some ⟨h0, 0, none⟩)] W fun e w' => ∃ Av cv, e = .returned (.agg #[.bool r1, .slice Av m1.length cv]) ∧ U64s w' (new W.heap.size) Av cv m1 ∧ Below W.heap.size W w'))
    (HD : Hid (∀ W, Below w.heap.size w W → Calls Tryz.prog 80 #[.pointer (some ⟨g0, 0, none⟩), .pointer (some ⟨h0, 0, none⟩)] W fun e w' => ∃ Av cv, e = .returned (.agg #[.bool r2, .slice Av m2.length cv]) ∧ U64s w' (new W.heap.size) Av cv m2 ∧ Below W.heap.size W w'))
    (HO : Hid (∀ W Y1 Y2 A1 c1 A2 c2, U64s W Y1 A1 c1 m1 → U64s W Y2 A2 c2 m2 → Calls Tryz.prog 140 #[.agg #[.bool r1, .slice A1 m1.length c1], .agg #[.bool r2, .slice A2 m2.length c2]] W fun e w' => ∃ An cn Ad cd, e = .returned (.tuple #[.agg #[.bool r, .slice An la.length cn, .slice Ad ld.length cd], .int .i64 E]) ∧ U64s w' (new W.heap.size) An cn la ∧ U64s w' (new W.heap.size) Ad cd ld ∧ Below W.heap.size W w')) :
    Calls Tryz.prog 75 #[.agg #[.bool s, .slice A l.length a, .slice B k.length b], .agg #[.bool t, .slice C l'.length c, .slice D k'.length d], .func (.func 76) #[] #[.pointer (some ⟨g0, 0, none⟩), .pointer (some ⟨h0, 0, none⟩)], .func (.func 80) #[] #[.pointer (some ⟨g0, 0, none⟩), .pointer (some ⟨h0, 0, none⟩)]] w fun e w' => ∃ An cn Ad cd, e = .returned (.tuple #[.agg #[.bool r, .slice An la.length cn, .slice Ad ld.length cd], .int .i64 E]) ∧ U64s w' (new w.heap.size) An cn la ∧ U64s w' (new w.heap.size) Ad cd ld ∧ Below w.heap.size w w' := by
  obtain ⟨bA, bB, bR, hB0⟩ := boxesQ w (.bool s) (.slice A l.length a) (.slice B k.length b) (.bool t) (.slice C l'.length c) (.slice D k'.length d) (.bool false) (.slice none 0 0) (.slice none 0 0)
  have Hck := Lib.hid (joinedHead u1 u2 u3 u4 q1 q2 q3 q4 (E := 0) (by rw [errFs_two]; exact if_pos ⟨o1, o2⟩))
  have hal : Below (((w.alloc (.cells #[.bool s, .slice A l.length a, .slice B k.length b] 48)).alloc (.cells #[.bool t, .slice C l'.length c, .slice D k'.length d] 48)).alloc (.cells #[.bool false, .slice none 0 0, .slice none 0 0] 48)).heap.size (((w.alloc (.cells #[.bool s, .slice A l.length a, .slice B k.length b] 48)).alloc (.cells #[.bool t, .slice C l'.length c, .slice D k'.length d] 48)).alloc (.cells #[.bool false, .slice none 0 0, .slice none 0 0] 48)) ((((w.alloc (.cells #[.bool s, .slice A l.length a, .slice B k.length b] 48)).alloc (.cells #[.bool t, .slice C l'.length c, .slice D k'.length d] 48)).alloc (.cells #[.bool false, .slice none 0 0, .slice none 0 0] 48)).alloc (.cells #[.bool s, .slice A l.length a, .slice B k.length b, .bool t, .slice C l'.length c, .slice D k'.length d] 48)) := (Below.refl _ _).alloc (Nat.le_refl _) _
  have HB1 := Lib.hid (from_ hB0 hal)
  have BR1 := Lib.hid (bR.below hal)
  obtain ⟨a0, a1, a2, _, _, _, _⟩ := bA
  obtain ⟨b0, b1, b2, _, _, _, _⟩ := bB
  clear u1 u2 u3 u4 q1 q2 q3 q4 o1 o2 hal hB0 bR
  generalize l.length = L1 at *
  generalize k.length = L2 at *
  generalize l'.length = L3 at *
  generalize k'.length = L4 at *
  go_enter Tryz.func75, Tryz.ntmps75
  go_wp2_with fail
  refine Hck.out.mono ?_
  rintro e w1 ⟨rfl, hc1⟩
  have HB2 := Lib.hid (from_ HB1.out hc1)
  have BR2 := Lib.hid (BR1.out.below hc1)
  clear a0 a1 a2 b0 b1 b2
  go_wp2_with fail
  refine (HN.out _ HB2.out).mono ?_
  rintro e w2 ⟨A1, c1, rfl, v1, hc2⟩
  have HB3 := Lib.hid (from_ HB2.out hc2)
  have BR3 := Lib.hid (BR2.out.below hc2)
  go_wp2_with fail
  refine (HD.out _ HB3.out).mono ?_
  rintro e w3 ⟨A2, c2, rfl, v2, hc3⟩
  have HB4 := Lib.hid (from_ HB3.out hc3)
  have BR4 := Lib.hid (BR3.out.below hc3)
  have v1' := v1.below hc3
  go_wp2_with fail
  refine (HO.out _ _ _ _ _ _ _ v1' v2).mono ?_
  rintro e w4 ⟨An, cn, Ad, cd, rfl, v3, v4, hc4⟩
  have HB5 := Lib.hid (from_ HB4.out hc4)
  have BR5 := Lib.hid (BR4.out.below hc4)
  have hz4 := BR4.out.lt
  have hP := BR5.out.put HB5.out (by omega) (.bool r) (.slice An la.length cn) (.slice Ad ld.length cd)
  have hn5 := hP.keep (fun (h : w3.heap.size ≤ w.heap.size + 2) => by omega) v3
  have hd5 := hP.keep (fun (h : w3.heap.size ≤ w.heap.size + 2) => by omega) v4
  have HN5 := Lib.hid (hn5.mono (Y := new w.heap.size) (new_le HB4.out.size))
  have HD5 := Lib.hid (hd5.mono (Y := new w.heap.size) (new_le HB4.out.size))
  have HP := Lib.hid hP
  obtain ⟨qq0, qq1, qq2, ff0, ff1, ff2, _⟩ := (show Box3 w4 (w.heap.size + 1 + 1) _ _ _ from BR5.out)
  clear hP hn5 hd5 v1 v2 v3 v4 v1'
  go_wp2
  refine bodyPost_ret (res_rat2 rfl _ (w.heap.size + 2) rfl HP.out.c0 HP.out.c1 HP.out.c2) rfl ?_
  exact ⟨_, _, _, _, rfl, HN5.out, HD5.out, HP.out.bel⟩

set_option maxRecDepth 100000 in
set_option maxHeartbeats 2000000 in
theorem radd_at {w : World} {Z1 Z2 Z3 Z4 : Zone} {s t : Bool} {l k l' k' : List Nat} {A B C D : Option Addr} {a b c d : Nat} {r1 r2 r : Bool} {m1 m2 la ld : List Nat} {E : Int} (u1 : U64s w Z1 A a l) (u2 : U64s w Z2 B b k) (u3 : U64s w Z3 C c l') (u4 : U64s w Z4 D d k') (q1 : l.length ≤ 2000) (q2 : k.length ≤ 2000) (q3 : l'.length ≤ 2000) (q4 : k'.length ≤ 2000) (o1 : okQ s l k = true) (o2 : okQ t l' k' = true)
    (HN : Hid (∀ W, Below w.heap.size w W → (W.cell? ⟨w.heap.size, 0, none⟩ = some (.bool s) ∧ W.cell? ⟨w.heap.size, 1, none⟩ = some (.slice A l.length a) ∧ W.cell? ⟨w.heap.size, 2, none⟩ = some (.slice B k.length b) ∧ W.cell? ⟨(w.heap.size + 1), 0, none⟩ = some (.bool t) ∧ W.cell? ⟨(w.heap.size + 1), 1, none⟩ = some (.slice C l'.length c) ∧ W.cell? ⟨(w.heap.size + 1), 2, none⟩ = some (.slice D k'.length d)) → Calls Tryz.prog 76 #[.pointer (some ⟨w.heap.size, 0, none⟩), .pointer (some ⟨w.heap.size + 1, 0, none⟩)] W fun e w' => ∃ Av cv, e = .returned (.agg #[.bool r1, .slice Av m1.length cv]) ∧ U64s w' (new W.heap.size) Av cv m1 ∧ Below W.heap.size W w'))
    (HD : Hid (∀ W, Below w.heap.size w W → (W.cell? ⟨w.heap.size, 0, none⟩ = some (.bool s) ∧ W.cell? ⟨w.heap.size, 1, none⟩ = some (.slice A l.length a) ∧ W.cell? ⟨w.heap.size, 2, none⟩ = some (.slice B k.length b) ∧ W.cell? ⟨(w.heap.size + 1), 0, none⟩ = some (.bool t) ∧ W.cell? ⟨(w.heap.size + 1), 1, none⟩ = some (.slice C l'.length c) ∧ W.cell? ⟨(w.heap.size + 1), 2, none⟩ = some (.slice D k'.length d)) → Calls Tryz.prog 80 #[.pointer (some ⟨w.heap.size, 0, none⟩), .pointer (some ⟨w.heap.size + 1, 0, none⟩)] W fun e w' => ∃ Av cv, e = .returned (.agg #[.bool r2, .slice Av m2.length cv]) ∧ U64s w' (new W.heap.size) Av cv m2 ∧ Below W.heap.size W w'))
    (HO : Hid (∀ W Y1 Y2 A1 c1 A2 c2, U64s W Y1 A1 c1 m1 → U64s W Y2 A2 c2 m2 → Calls Tryz.prog 140 #[.agg #[.bool r1, .slice A1 m1.length c1], .agg #[.bool r2, .slice A2 m2.length c2]] W fun e w' => ∃ An cn Ad cd, e = .returned (.tuple #[.agg #[.bool r, .slice An la.length cn, .slice Ad ld.length cd], .int .i64 E]) ∧ U64s w' (new W.heap.size) An cn la ∧ U64s w' (new W.heap.size) Ad cd ld ∧ Below W.heap.size W w')) :
    Calls Tryz.prog 23 #[.agg #[.bool s, .slice A l.length a, .slice B k.length b], .agg #[.bool t, .slice C l'.length c, .slice D k'.length d]] w fun e w' => ∃ An cn Ad cd, e = .returned (.tuple #[.agg #[.bool r, .slice An la.length cn, .slice Ad ld.length cd], .int .i64 E]) ∧ U64s w' (new w.heap.size) An cn la ∧ U64s w' (new w.heap.size) Ad cd ld ∧ Below w.heap.size w w' := by
  obtain ⟨bA, bB, bR, hB0⟩ := boxesQ w (.bool s) (.slice A l.length a) (.slice B k.length b) (.bool t) (.slice C l'.length c) (.slice D k'.length d) (.bool false) (.slice none 0 0) (.slice none 0 0)
  have hs : (((w.alloc (.cells #[.bool s, .slice A l.length a, .slice B k.length b] 48)).alloc (.cells #[.bool t, .slice C l'.length c, .slice D k'.length d] 48)).alloc (.cells #[.bool false, .slice none 0 0, .slice none 0 0] 48)).cell? ⟨w.heap.size, 0, none⟩ = some (.bool s) ∧ (((w.alloc (.cells #[.bool s, .slice A l.length a, .slice B k.length b] 48)).alloc (.cells #[.bool t, .slice C l'.length c, .slice D k'.length d] 48)).alloc (.cells #[.bool false, .slice none 0 0, .slice none 0 0] 48)).cell? ⟨w.heap.size, 1, none⟩ = some (.slice A l.length a) ∧ (((w.alloc (.cells #[.bool s, .slice A l.length a, .slice B k.length b] 48)).alloc (.cells #[.bool t, .slice C l'.length c, .slice D k'.length d] 48)).alloc (.cells #[.bool false, .slice none 0 0, .slice none 0 0] 48)).cell? ⟨w.heap.size, 2, none⟩ = some (.slice B k.length b) ∧ (((w.alloc (.cells #[.bool s, .slice A l.length a, .slice B k.length b] 48)).alloc (.cells #[.bool t, .slice C l'.length c, .slice D k'.length d] 48)).alloc (.cells #[.bool false, .slice none 0 0, .slice none 0 0] 48)).cell? ⟨(w.heap.size + 1), 0, none⟩ = some (.bool t) ∧ (((w.alloc (.cells #[.bool s, .slice A l.length a, .slice B k.length b] 48)).alloc (.cells #[.bool t, .slice C l'.length c, .slice D k'.length d] 48)).alloc (.cells #[.bool false, .slice none 0 0, .slice none 0 0] 48)).cell? ⟨(w.heap.size + 1), 1, none⟩ = some (.slice C l'.length c) ∧ (((w.alloc (.cells #[.bool s, .slice A l.length a, .slice B k.length b] 48)).alloc (.cells #[.bool t, .slice C l'.length c, .slice D k'.length d] 48)).alloc (.cells #[.bool false, .slice none 0 0, .slice none 0 0] 48)).cell? ⟨(w.heap.size + 1), 2, none⟩ = some (.slice D k'.length d) := ⟨bA.c0, bA.c1, bA.c2, bB.c0, bB.c1, bB.c2⟩
  have hj := rjoin_Add (w := (((w.alloc (.cells #[.bool s, .slice A l.length a, .slice B k.length b] 48)).alloc (.cells #[.bool t, .slice C l'.length c, .slice D k'.length d] 48)).alloc (.cells #[.bool false, .slice none 0 0, .slice none 0 0] 48))) (g0 := w.heap.size) (h0 := w.heap.size + 1) (u1.below hB0) (u2.below hB0) (u3.below hB0) (u4.below hB0) q1 q2 q3 q4 o1 o2
    (Lib.hid fun W hW => HN.out W (from_ hB0 hW) (boxQ_keep hs hW)) (Lib.hid fun W hW => HD.out W (from_ hB0 hW) (boxQ_keep hs hW)) HO
  have Hj := Lib.hid hj
  have HB0 := Lib.hid hB0
  have BR0 := Lib.hid bR
  obtain ⟨a0, a1, a2, _, _, _, _⟩ := bA
  obtain ⟨b0, b1, b2, _, _, _, _⟩ := bB
  clear u1 u2 u3 u4 q1 q2 q3 q4 o1 o2 hs hj hB0 bR HN HD HO
  generalize l.length = L1 at *
  generalize k.length = L2 at *
  generalize l'.length = L3 at *
  generalize k'.length = L4 at *
  go_enter Tryz.func23, Tryz.ntmps23
  go_wp2_with fail
  refine Hj.out.mono ?_
  rintro e w4 ⟨An, cn, Ad, cd, rfl, v3, v4, hc4⟩
  have HB5 := Lib.hid (from_ HB0.out hc4)
  have BR5 := Lib.hid (BR0.out.below hc4)
  have hz4 := BR0.out.lt
  have hP := BR5.out.put HB5.out (by omega) (.bool r) (.slice An la.length cn) (.slice Ad ld.length cd)
  have hn5 := hP.keep (fun (h : _ ≤ w.heap.size + 2) => by simp at h hz4; omega) v3
  have hd5 := hP.keep (fun (h : _ ≤ w.heap.size + 2) => by simp at h hz4; omega) v4
  have HN5 := Lib.hid (hn5.mono (Y := new w.heap.size) (new_le HB0.out.size))
  have HD5 := Lib.hid (hd5.mono (Y := new w.heap.size) (new_le HB0.out.size))
  have HP := Lib.hid hP
  obtain ⟨qq0, qq1, qq2, ff0, ff1, ff2, _⟩ := (show Box3 w4 (w.heap.size + 1 + 1) _ _ _ from BR5.out)
  clear hP hn5 hd5 v3 v4 a0 a1 a2 b0 b1 b2
  go_wp2
  refine bodyPost_ret (res_rat2 rfl _ (w.heap.size + 2) rfl HP.out.c0 HP.out.c1 HP.out.c2) rfl ?_
  exact ⟨_, _, _, _, rfl, HN5.out, HD5.out, HP.out.bel⟩

set_option maxRecDepth 100000 in
set_option maxHeartbeats 2000000 in
theorem rjoin_Mul {w : World} {Z1 Z2 Z3 Z4 : Zone} {s t : Bool} {l k l' k' : List Nat} {A B C D : Option Addr} {a b c d : Nat} {g0 h0 : Nat} {r1 r2 r : Bool} {m1 m2 la ld : List Nat} {E : Int} (u1 : U64s w Z1 A a l) (u2 : U64s w Z2 B b k) (u3 : U64s w Z3 C c l') (u4 : U64s w Z4 D d k') (q1 : l.length ≤ 2000) (q2 : k.length ≤ 2000) (q3 : l'.length ≤ 2000) (q4 : k'.length ≤ 2000) (o1 : okQ s l k = true) (o2 : okQ t l' k' = true)
    (HN : Hid (∀ W, Below w.heap.size w W → Calls Tryz.prog 86 #[.pointer (some ⟨g0, 0, none⟩), .pointer (some ⟨h0, 0, none⟩)] W fun e w' => ∃ Av cv, e = .returned (.agg #[.bool r1, .slice Av m1.length cv]) ∧ U64s w' (new W.heap.size) Av cv m1 ∧ Below W.heap.size W w'))
    (HD : Hid (∀ W, Below w.heap.size w W → Calls Tryz.prog 87 #[.pointer (some ⟨g0, 0, none⟩), .pointer (some ⟨h0, 0, none⟩)] W fun e w' => ∃ Av cv, e = .returned (.agg #[.bool r2, .slice Av m2.length cv]) ∧ U64s w' (new W.heap.size) Av cv m2 ∧ Below W.heap.size W w'))
    (HO : Hid (∀ W Y1 Y2 A1 c1 A2 c2, U64s W Y1 A1 c1 m1 → U64s W Y2 A2 c2 m2 → Calls Tryz.prog 140 #[.agg #[.bool r1, .slice A1 m1.length c1], .agg #[.bool r2, .slice A2 m2.length c2]] W fun e w' => ∃ An cn Ad cd, e = .returned (.tuple #[.agg #[.bool r, .slice An la.length cn, .slice Ad ld.length cd], .int .i64 E]) ∧ U64s w' (new W.heap.size) An cn la ∧ U64s w' (new W.heap.size) Ad cd ld ∧ Below W.heap.size W w')) :
    Calls Tryz.prog 75 #[.agg #[.bool s, .slice A l.length a, .slice B k.length b], .agg #[.bool t, .slice C l'.length c, .slice D k'.length d], .func (.func 86) #[] #[.pointer (some ⟨g0, 0, none⟩), .pointer (some ⟨h0, 0, none⟩)], .func (.func 87) #[] #[.pointer (some ⟨g0, 0, none⟩), .pointer (some ⟨h0, 0, none⟩)]] w fun e w' => ∃ An cn Ad cd, e = .returned (.tuple #[.agg #[.bool r, .slice An la.length cn, .slice Ad ld.length cd], .int .i64 E]) ∧ U64s w' (new w.heap.size) An cn la ∧ U64s w' (new w.heap.size) Ad cd ld ∧ Below w.heap.size w w' := by
  obtain ⟨bA, bB, bR, hB0⟩ := boxesQ w (.bool s) (.slice A l.length a) (.slice B k.length b) (.bool t) (.slice C l'.length c) (.slice D k'.length d) (.bool false) (.slice none 0 0) (.slice none 0 0)
  have Hck := Lib.hid (joinedHead u1 u2 u3 u4 q1 q2 q3 q4 (E := 0) (by rw [errFs_two]; exact if_pos ⟨o1, o2⟩))
  have hal : Below (((w.alloc (.cells #[.bool s, .slice A l.length a, .slice B k.length b] 48)).alloc (.cells #[.bool t, .slice C l'.length c, .slice D k'.length d] 48)).alloc (.cells #[.bool false, .slice none 0 0, .slice none 0 0] 48)).heap.size (((w.alloc (.cells #[.bool s, .slice A l.length a, .slice B k.length b] 48)).alloc (.cells #[.bool t, .slice C l'.length c, .slice D k'.length d] 48)).alloc (.cells #[.bool false, .slice none 0 0, .slice none 0 0] 48)) ((((w.alloc (.cells #[.bool s, .slice A l.length a, .slice B k.length b] 48)).alloc (.cells #[.bool t, .slice C l'.length c, .slice D k'.length d] 48)).alloc (.cells #[.bool false, .slice none 0 0, .slice none 0 0] 48)).alloc (.cells #[.bool s, .slice A l.length a, .slice B k.length b, .bool t, .slice C l'.length c, .slice D k'.length d] 48)) := (Below.refl _ _).alloc (Nat.le_refl _) _
  have HB1 := Lib.hid (from_ hB0 hal)
  have BR1 := Lib.hid (bR.below hal)
  obtain ⟨a0, a1, a2, _, _, _, _⟩ := bA
  obtain ⟨b0, b1, b2, _, _, _, _⟩ := bB
  clear u1 u2 u3 u4 q1 q2 q3 q4 o1 o2 hal hB0 bR
  generalize l.length = L1 at *
  generalize k.length = L2 at *
  generalize l'.length = L3 at *
  generalize k'.length = L4 at *
  go_enter Tryz.func75, Tryz.ntmps75
  go_wp2_with fail
  refine Hck.out.mono ?_
  rintro e w1 ⟨rfl, hc1⟩
  have HB2 := Lib.hid (from_ HB1.out hc1)
  have BR2 := Lib.hid (BR1.out.below hc1)
  clear a0 a1 a2 b0 b1 b2
  go_wp2_with fail
  refine (HN.out _ HB2.out).mono ?_
  rintro e w2 ⟨A1, c1, rfl, v1, hc2⟩
  have HB3 := Lib.hid (from_ HB2.out hc2)
  have BR3 := Lib.hid (BR2.out.below hc2)
  go_wp2_with fail
  refine (HD.out _ HB3.out).mono ?_
  rintro e w3 ⟨A2, c2, rfl, v2, hc3⟩
  have HB4 := Lib.hid (from_ HB3.out hc3)
  have BR4 := Lib.hid (BR3.out.below hc3)
  have v1' := v1.below hc3
  go_wp2_with fail
  refine (HO.out _ _ _ _ _ _ _ v1' v2).mono ?_
  rintro e w4 ⟨An, cn, Ad, cd, rfl, v3, v4, hc4⟩
  have HB5 := Lib.hid (from_ HB4.out hc4)
  have BR5 := Lib.hid (BR4.out.below hc4)
  have hz4 := BR4.out.lt
  have hP := BR5.out.put HB5.out (by omega) (.bool r) (.slice An la.length cn) (.slice Ad ld.length cd)
  have hn5 := hP.keep (fun (h : w3.heap.size ≤ w.heap.size + 2) => by omega) v3
  have hd5 := hP.keep (fun (h : w3.heap.size ≤ w.heap.size + 2) => by omega) v4
  have HN5 := Lib.hid (hn5.mono (Y := new w.heap.size) (new_le HB4.out.size))
  have HD5 := Lib.hid (hd5.mono (Y := new w.heap.size) (new_le HB4.out.size))
  have HP := Lib.hid hP
  obtain ⟨qq0, qq1, qq2, ff0, ff1, ff2, _⟩ := (show Box3 w4 (w.heap.size + 1 + 1) _ _ _ from BR5.out)
  clear hP hn5 hd5 v1 v2 v3 v4 v1'
  go_wp2
  refine bodyPost_ret (res_rat2 rfl _ (w.heap.size + 2) rfl HP.out.c0 HP.out.c1 HP.out.c2) rfl ?_
  exact ⟨_, _, _, _, rfl, HN5.out, HD5.out, HP.out.bel⟩

set_option maxRecDepth 100000 in
set_option maxHeartbeats 2000000 in
theorem rmul_at {w : World} {Z1 Z2 Z3 Z4 : Zone} {s t : Bool} {l k l' k' : List Nat} {A B C D : Option Addr} {a b c d : Nat} {r1 r2 r : Bool} {m1 m2 la ld : List Nat} {E : Int} (u1 : U64s w Z1 A a l) (u2 : U64s w Z2 B b k) (u3 : U64s w Z3 C c l') (u4 : U64s w Z4 D d k') (q1 : l.length ≤ 2000) (q2 : k.length ≤ 2000) (q3 : l'.length ≤ 2000) (q4 : k'.length ≤ 2000) (o1 : okQ s l k = true) (o2 : okQ t l' k' = true)
    (HN : Hid (∀ W, Below w.heap.size w W → (W.cell? ⟨w.heap.size, 0, none⟩ = some (.bool s) ∧ W.cell? ⟨w.heap.size, 1, none⟩ = some (.slice A l.length a) ∧ W.cell? ⟨w.heap.size, 2, none⟩ = some (.slice B k.length b) ∧ W.cell? ⟨(w.heap.size + 1), 0, none⟩ = some (.bool t) ∧ W.cell? ⟨(w.heap.size + 1), 1, none⟩ = some (.slice C l'.length c) ∧ W.cell? ⟨(w.heap.size + 1), 2, none⟩ = some (.slice D k'.length d)) → Calls Tryz.prog 86 #[.pointer (some ⟨w.heap.size, 0, none⟩), .pointer (some ⟨w.heap.size + 1, 0, none⟩)] W fun e w' => ∃ Av cv, e = .returned (.agg #[.bool r1, .slice Av m1.length cv]) ∧ U64s w' (new W.heap.size) Av cv m1 ∧ Below W.heap.size W w'))
    (HD : Hid (∀ W, Below w.heap.size w W → (W.cell? ⟨w.heap.size, 0, none⟩ = some (.bool s) ∧ W.cell? ⟨w.heap.size, 1, none⟩ = some (.slice A l.length a) ∧ W.cell? ⟨w.heap.size, 2, none⟩ = some (.slice B k.length b) ∧ W.cell? ⟨(w.heap.size + 1), 0, none⟩ = some (.bool t) ∧ W.cell? ⟨(w.heap.size + 1), 1, none⟩ = some (.slice C l'.length c) ∧ W.cell? ⟨(w.heap.size + 1), 2, none⟩ = some (.slice D k'.length d)) → Calls Tryz.prog 87 #[.pointer (some ⟨w.heap.size, 0, none⟩), .pointer (some ⟨w.heap.size + 1, 0, none⟩)] W fun e w' => ∃ Av cv, e = .returned (.agg #[.bool r2, .slice Av m2.length cv]) ∧ U64s w' (new W.heap.size) Av cv m2 ∧ Below W.heap.size W w'))
    (HO : Hid (∀ W Y1 Y2 A1 c1 A2 c2, U64s W Y1 A1 c1 m1 → U64s W Y2 A2 c2 m2 → Calls Tryz.prog 140 #[.agg #[.bool r1, .slice A1 m1.length c1], .agg #[.bool r2, .slice A2 m2.length c2]] W fun e w' => ∃ An cn Ad cd, e = .returned (.tuple #[.agg #[.bool r, .slice An la.length cn, .slice Ad ld.length cd], .int .i64 E]) ∧ U64s w' (new W.heap.size) An cn la ∧ U64s w' (new W.heap.size) Ad cd ld ∧ Below W.heap.size W w')) :
    Calls Tryz.prog 27 #[.agg #[.bool s, .slice A l.length a, .slice B k.length b], .agg #[.bool t, .slice C l'.length c, .slice D k'.length d]] w fun e w' => ∃ An cn Ad cd, e = .returned (.tuple #[.agg #[.bool r, .slice An la.length cn, .slice Ad ld.length cd], .int .i64 E]) ∧ U64s w' (new w.heap.size) An cn la ∧ U64s w' (new w.heap.size) Ad cd ld ∧ Below w.heap.size w w' := by
  obtain ⟨bA, bB, bR, hB0⟩ := boxesQ w (.bool s) (.slice A l.length a) (.slice B k.length b) (.bool t) (.slice C l'.length c) (.slice D k'.length d) (.bool false) (.slice none 0 0) (.slice none 0 0)
  have hs : (((w.alloc (.cells #[.bool s, .slice A l.length a, .slice B k.length b] 48)).alloc (.cells #[.bool t, .slice C l'.length c, .slice D k'.length d] 48)).alloc (.cells #[.bool false, .slice none 0 0, .slice none 0 0] 48)).cell? ⟨w.heap.size, 0, none⟩ = some (.bool s) ∧ (((w.alloc (.cells #[.bool s, .slice A l.length a, .slice B k.length b] 48)).alloc (.cells #[.bool t, .slice C l'.length c, .slice D k'.length d] 48)).alloc (.cells #[.bool false, .slice none 0 0, .slice none 0 0] 48)).cell? ⟨w.heap.size, 1, none⟩ = some (.slice A l.length a) ∧ (((w.alloc (.cells #[.bool s, .slice A l.length a, .slice B k.length b] 48)).alloc (.cells #[.bool t, .slice C l'.length c, .slice D k'.length d] 48)).alloc (.cells #[.bool false, .slice none 0 0, .slice none 0 0] 48)).cell? ⟨w.heap.size, 2, none⟩ = some (.slice B k.length b) ∧ (((w.alloc (.cells #[.bool s, .slice A l.length a, .slice B k.length b] 48)).alloc (.cells #[.bool t, .slice C l'.length c, .slice D k'.length d] 48)).alloc (.cells #[.bool false, .slice none 0 0, .slice none 0 0] 48)).cell? ⟨(w.heap.size + 1), 0, none⟩ = some (.bool t) ∧ (((w.alloc (.cells #[.bool s, .slice A l.length a, .slice B k.length b] 48)).alloc (.cells #[.bool t, .slice C l'.length c, .slice D k'.length d] 48)).alloc (.cells #[.bool false, .slice none 0 0, .slice none 0 0] 48)).cell? ⟨(w.heap.size + 1), 1, none⟩ = some (.slice C l'.length c) ∧ (((w.alloc (.cells #[.bool s, .slice A l.length a, .slice B k.length b] 48)).alloc (.cells #[.bool t, .slice C l'.length c, .slice D k'.length d] 48)).alloc (.cells #[.bool false, .slice none 0 0, .slice none 0 0] 48)).cell? ⟨(w.heap.size + 1), 2, none⟩ = some (.slice D k'.length d) := ⟨bA.c0, bA.c1, bA.c2, bB.c0, bB.c1, bB.c2⟩
  have hj := rjoin_Mul (w := (((w.alloc (.cells #[.bool s, .slice A l.length a, .slice B k.length b] 48)).alloc (.cells #[.bool t, .slice C l'.length c, .slice D k'.length d] 48)).alloc (.cells #[.bool false, .slice none 0 0, .slice none 0 0] 48))) (g0 := w.heap.size) (h0 := w.heap.size + 1) (u1.below hB0) (u2.below hB0) (u3.below hB0) (u4.below hB0) q1 q2 q3 q4 o1 o2
    (Lib.hid fun W hW => HN.out W (from_ hB0 hW) (boxQ_keep hs hW)) (Lib.hid fun W hW => HD.out W (from_ hB0 hW) (boxQ_keep hs hW)) HO
  have Hj := Lib.hid hj
  have HB0 := Lib.hid hB0
  have BR0 := Lib.hid bR
  obtain ⟨a0, a1, a2, _, _, _, _⟩ := bA
  obtain ⟨b0, b1, b2, _, _, _, _⟩ := bB
  clear u1 u2 u3 u4 q1 q2 q3 q4 o1 o2 hs hj hB0 bR HN HD HO
  generalize l.length = L1 at *
  generalize k.length = L2 at *
  generalize l'.length = L3 at *
  generalize k'.length = L4 at *
  go_enter Tryz.func27, Tryz.ntmps27
  go_wp2_with fail
  refine Hj.out.mono ?_
  rintro e w4 ⟨An, cn, Ad, cd, rfl, v3, v4, hc4⟩
  have HB5 := Lib.hid (from_ HB0.out hc4)
  have BR5 := Lib.hid (BR0.out.below hc4)
  have hz4 := BR0.out.lt
  have hP := BR5.out.put HB5.out (by omega) (.bool r) (.slice An la.length cn) (.slice Ad ld.length cd)
  have hn5 := hP.keep (fun (h : _ ≤ w.heap.size + 2) => by simp at h hz4; omega) v3
  have hd5 := hP.keep (fun (h : _ ≤ w.heap.size + 2) => by simp at h hz4; omega) v4
  have HN5 := Lib.hid (hn5.mono (Y := new w.heap.size) (new_le HB0.out.size))
  have HD5 := Lib.hid (hd5.mono (Y := new w.heap.size) (new_le HB0.out.size))
  have HP := Lib.hid hP
  obtain ⟨qq0, qq1, qq2, ff0, ff1, ff2, _⟩ := (show Box3 w4 (w.heap.size + 1 + 1) _ _ _ from BR5.out)
  clear hP hn5 hd5 v3 v4 a0 a1 a2 b0 b1 b2
  go_wp2
  refine bodyPost_ret (res_rat2 rfl _ (w.heap.size + 2) rfl HP.out.c0 HP.out.c1 HP.out.c2) rfl ?_
  exact ⟨_, _, _, _, rfl, HN5.out, HD5.out, HP.out.bel⟩

set_option maxRecDepth 100000 in
set_option maxHeartbeats 2000000 in
theorem rjoin_Div {w : World} {Z1 Z2 Z3 Z4 : Zone} {s t : Bool} {l k l' k' : List Nat} {A B C D : Option Addr} {a b c d : Nat} {g0 h0 : Nat} {r1 r2 r : Bool} {m1 m2 la ld : List Nat} {E : Int} (u1 : U64s w Z1 A a l) (u2 : U64s w Z2 B b k) (u3 : U64s w Z3 C c l') (u4 : U64s w Z4 D d k') (q1 : l.length ≤ 2000) (q2 : k.length ≤ 2000) (q3 : l'.length ≤ 2000) (q4 : k'.length ≤ 2000) (o1 : okQ s l k = true) (o2 : okQ t l' k' = true)
    (HN : Hid (∀ W, Below w.heap.size w W → Calls Tryz.prog 89 #[.pointer (some ⟨g0, 0, none⟩), .pointer (some ⟨h0, 0, none⟩)] W fun e w' => ∃ Av cv, e = .returned (.agg #[.bool r1, .slice Av m1.length cv]) ∧ U64s w' (new W.heap.size) Av cv m1 ∧ Below W.heap.size W w'))
    (HD : Hid (∀ W, Below w.heap.size w W → Calls Tryz.prog 90 #[.pointer (some ⟨g0, 0, none⟩), .pointer (some ⟨h0, 0, none⟩)] W fun e w' => ∃ Av cv, e = .returned (.agg #[.bool r2, .slice Av m2.length cv]) ∧ U64s w' (new W.heap.size) Av cv m2 ∧ Below W.heap.size W w'))
    (HO : Hid (∀ W Y1 Y2 A1 c1 A2 c2, U64s W Y1 A1 c1 m1 → U64s W Y2 A2 c2 m2 → Calls Tryz.prog 140 #[.agg #[.bool r1, .slice A1 m1.length c1], .agg #[.bool r2, .slice A2 m2.length c2]] W fun e w' => ∃ An cn Ad cd, e = .returned (.tuple #[.agg #[.bool r, .slice An la.length cn, .slice Ad ld.length cd], .int .i64 E]) ∧ U64s w' (new W.heap.size) An cn la ∧ U64s w' (new W.heap.size) Ad cd ld ∧ Below W.heap.size W w')) :
    Calls Tryz.prog 75 #[.agg #[.bool s, .slice A l.length a, .slice B k.length b], .agg #[.bool t, .slice C l'.length c, .slice D k'.length d], .func (.func 89) #[] #[.pointer (some ⟨g0, 0, none⟩), .pointer (some ⟨h0, 0, none⟩)], .func (.func 90) #[] #[.pointer (some ⟨g0, 0, none⟩), .pointer (some ⟨h0, 0, none⟩)]] w fun e w' => ∃ An cn Ad cd, e = .returned (.tuple #[.agg #[.bool r, .slice An la.length cn, .slice Ad ld.length cd], .int .i64 E]) ∧ U64s w' (new w.heap.size) An cn la ∧ U64s w' (new w.heap.size) Ad cd ld ∧ Below w.heap.size w w' := by
  obtain ⟨bA, bB, bR, hB0⟩ := boxesQ w (.bool s) (.slice A l.length a) (.slice B k.length b) (.bool t) (.slice C l'.length c) (.slice D k'.length d) (.bool false) (.slice none 0 0) (.slice none 0 0)
  have Hck := Lib.hid (joinedHead u1 u2 u3 u4 q1 q2 q3 q4 (E := 0) (by rw [errFs_two]; exact if_pos ⟨o1, o2⟩))
  have hal : Below (((w.alloc (.cells #[.bool s, .slice A l.length a, .slice B k.length b] 48)).alloc (.cells #[.bool t, .slice C l'.length c, .slice D k'.length d] 48)).alloc (.cells #[.bool false, .slice none 0 0, .slice none 0 0] 48)).heap.size (((w.alloc (.cells #[.bool s, .slice A l.length a, .slice B k.length b] 48)).alloc (.cells #[.bool t, .slice C l'.length c, .slice D k'.length d] 48)).alloc (.cells #[.bool false, .slice none 0 0, .slice none 0 0] 48)) ((((w.alloc (.cells #[.bool s, .slice A l.length a, .slice B k.length b] 48)).alloc (.cells #[.bool t, .slice C l'.length c, .slice D k'.length d] 48)).alloc (.cells #[.bool false, .slice none 0 0, .slice none 0 0] 48)).alloc (.cells #[.bool s, .slice A l.length a, .slice B k.length b, .bool t, .slice C l'.length c, .slice D k'.length d] 48)) := (Below.refl _ _).alloc (Nat.le_refl _) _
  have HB1 := Lib.hid (from_ hB0 hal)
  have BR1 := Lib.hid (bR.below hal)
  obtain ⟨a0, a1, a2, _, _, _, _⟩ := bA
  obtain ⟨b0, b1, b2, _, _, _, _⟩ := bB
  clear u1 u2 u3 u4 q1 q2 q3 q4 o1 o2 hal hB0 bR
  generalize l.length = L1 at *
  generalize k.length = L2 at *
  generalize l'.length = L3 at *
  generalize k'.length = L4 at *
  go_enter Tryz.func75, Tryz.ntmps75
  go_wp2_with fail
  refine Hck.out.mono ?_
  rintro e w1 ⟨rfl, hc1⟩
  have HB2 := Lib.hid (from_ HB1.out hc1)
  have BR2 := Lib.hid (BR1.out.below hc1)
  clear a0 a1 a2 b0 b1 b2
  go_wp2_with fail
  refine (HN.out _ HB2.out).mono ?_
  rintro e w2 ⟨A1, c1, rfl, v1, hc2⟩
  have HB3 := Lib.hid (from_ HB2.out hc2)
  have BR3 := Lib.hid (BR2.out.below hc2)
  go_wp2_with fail
  refine (HD.out _ HB3.out).mono ?_
  rintro e w3 ⟨A2, c2, rfl, v2, hc3⟩
  have HB4 := Lib.hid (from_ HB3.out hc3)
  have BR4 := Lib.hid (BR3.out.below hc3)
  have v1' := v1.below hc3
  go_wp2_with fail
  refine (HO.out _ _ _ _ _ _ _ v1' v2).mono ?_
  rintro e w4 ⟨An, cn, Ad, cd, rfl, v3, v4, hc4⟩
  have HB5 := Lib.hid (from_ HB4.out hc4)
  have BR5 := Lib.hid (BR4.out.below hc4)
  have hz4 := BR4.out.lt
  have hP := BR5.out.put HB5.out (by omega) (.bool r) (.slice An la.length cn) (.slice Ad ld.length cd)
  have hn5 := hP.keep (fun (h : w3.heap.size ≤ w.heap.size + 2) => by omega) v3
  have hd5 := hP.keep (fun (h : w3.heap.size ≤ w.heap.size + 2) => by omega) v4
  have HN5 := Lib.hid (hn5.mono (Y := new w.heap.size) (new_le HB4.out.size))
  have HD5 := Lib.hid (hd5.mono (Y := new w.heap.size) (new_le HB4.out.size))
  have HP := Lib.hid hP
  obtain ⟨qq0, qq1, qq2, ff0, ff1, ff2, _⟩ := (show Box3 w4 (w.heap.size + 1 + 1) _ _ _ from BR5.out)
  clear hP hn5 hd5 v1 v2 v3 v4 v1'
  go_wp2
  refine bodyPost_ret (res_rat2 rfl _ (w.heap.size + 2) rfl HP.out.c0 HP.out.c1 HP.out.c2) rfl ?_
  exact ⟨_, _, _, _, rfl, HN5.out, HD5.out, HP.out.bel⟩

set_option maxRecDepth 100000 in
set_option maxHeartbeats 2000000 in
theorem rdiv_at {w : World} {Z1 Z2 Z3 Z4 : Zone} {s t : Bool} {l k l' k' : List Nat} {A B C D : Option Addr} {a b c d : Nat} {r1 r2 r : Bool} {m1 m2 la ld : List Nat} {E : Int} (u1 : U64s w Z1 A a l) (u2 : U64s w Z2 B b k) (u3 : U64s w Z3 C c l') (u4 : U64s w Z4 D d k') (q1 : l.length ≤ 2000) (q2 : k.length ≤ 2000) (q3 : l'.length ≤ 2000) (q4 : k'.length ≤ 2000) (o1 : okQ s l k = true) (o2 : okQ t l' k' = true)
    (HN : Hid (∀ W, Below w.heap.size w W → (W.cell? ⟨w.heap.size, 0, none⟩ = some (.bool s) ∧ W.cell? ⟨w.heap.size, 1, none⟩ = some (.slice A l.length a) ∧ W.cell? ⟨w.heap.size, 2, none⟩ = some (.slice B k.length b) ∧ W.cell? ⟨(w.heap.size + 1), 0, none⟩ = some (.bool t) ∧ W.cell? ⟨(w.heap.size + 1), 1, none⟩ = some (.slice C l'.length c) ∧ W.cell? ⟨(w.heap.size + 1), 2, none⟩ = some (.slice D k'.length d)) → Calls Tryz.prog 89 #[.pointer (some ⟨w.heap.size, 0, none⟩), .pointer (some ⟨w.heap.size + 1, 0, none⟩)] W fun e w' => ∃ Av cv, e = .returned (.agg #[.bool r1, .slice Av m1.length cv]) ∧ U64s w' (new W.heap.size) Av cv m1 ∧ Below W.heap.size W w'))
    (HD : Hid (∀ W, Below w.heap.size w W → (W.cell? ⟨w.heap.size, 0, none⟩ = some (.bool s) ∧ W.cell? ⟨w.heap.size, 1, none⟩ = some (.slice A l.length a) ∧ W.cell? ⟨w.heap.size, 2, none⟩ = some (.slice B k.length b) ∧ W.cell? ⟨(w.heap.size + 1), 0, none⟩ = some (.bool t) ∧ W.cell? ⟨(w.heap.size + 1), 1, none⟩ = some (.slice C l'.length c) ∧ W.cell? ⟨(w.heap.size + 1), 2, none⟩ = some (.slice D k'.length d)) → Calls Tryz.prog 90 #[.pointer (some ⟨w.heap.size, 0, none⟩), .pointer (some ⟨w.heap.size + 1, 0, none⟩)] W fun e w' => ∃ Av cv, e = .returned (.agg #[.bool r2, .slice Av m2.length cv]) ∧ U64s w' (new W.heap.size) Av cv m2 ∧ Below W.heap.size W w'))
    (HO : Hid (∀ W Y1 Y2 A1 c1 A2 c2, U64s W Y1 A1 c1 m1 → U64s W Y2 A2 c2 m2 → Calls Tryz.prog 140 #[.agg #[.bool r1, .slice A1 m1.length c1], .agg #[.bool r2, .slice A2 m2.length c2]] W fun e w' => ∃ An cn Ad cd, e = .returned (.tuple #[.agg #[.bool r, .slice An la.length cn, .slice Ad ld.length cd], .int .i64 E]) ∧ U64s w' (new W.heap.size) An cn la ∧ U64s w' (new W.heap.size) Ad cd ld ∧ Below W.heap.size W w')) :
    Calls Tryz.prog 29 #[.agg #[.bool s, .slice A l.length a, .slice B k.length b], .agg #[.bool t, .slice C l'.length c, .slice D k'.length d]] w fun e w' => ∃ An cn Ad cd, e = .returned (.tuple #[.agg #[.bool r, .slice An la.length cn, .slice Ad ld.length cd], .int .i64 E]) ∧ U64s w' (new w.heap.size) An cn la ∧ U64s w' (new w.heap.size) Ad cd ld ∧ Below w.heap.size w w' := by
  obtain ⟨bA, bB, bR, hB0⟩ := boxesQ w (.bool s) (.slice A l.length a) (.slice B k.length b) (.bool t) (.slice C l'.length c) (.slice D k'.length d) (.bool false) (.slice none 0 0) (.slice none 0 0)
  have hs : (((w.alloc (.cells #[.bool s, .slice A l.length a, .slice B k.length b] 48)).alloc (.cells #[.bool t, .slice C l'.length c, .slice D k'.length d] 48)).alloc (.cells #[.bool false, .slice none 0 0, .slice none 0 0] 48)).cell? ⟨w.heap.size, 0, none⟩ = some (.bool s) ∧ (((w.alloc (.cells #[.bool s, .slice A l.length a, .slice B k.length b] 48)).alloc (.cells #[.bool t, .slice C l'.length c, .slice D k'.length d] 48)).alloc (.cells #[.bool false, .slice none 0 0, .slice none 0 0] 48)).cell? ⟨w.heap.size, 1, none⟩ = some (.slice A l.length a) ∧ (((w.alloc (.cells #[.bool s, .slice A l.length a, .slice B k.length b] 48)).alloc (.cells #[.bool t, .slice C l'.length c, .slice D k'.length d] 48)).alloc (.cells #[.bool false, .slice none 0 0, .slice none 0 0] 48)).cell? ⟨w.heap.size, 2, none⟩ = some (.slice B k.length b) ∧ (((w.alloc (.cells #[.bool s, .slice A l.length a, .slice B k.length b] 48)).alloc (.cells #[.bool t, .slice C l'.length c, .slice D k'.length d] 48)).alloc (.cells #[.bool false, .slice none 0 0, .slice none 0 0] 48)).cell? ⟨(w.heap.size + 1), 0, none⟩ = some (.bool t) ∧ (((w.alloc (.cells #[.bool s, .slice A l.length a, .slice B k.length b] 48)).alloc (.cells #[.bool t, .slice C l'.length c, .slice D k'.length d] 48)).alloc (.cells #[.bool false, .slice none 0 0, .slice none 0 0] 48)).cell? ⟨(w.heap.size + 1), 1, none⟩ = some (.slice C l'.length c) ∧ (((w.alloc (.cells #[.bool s, .slice A l.length a, .slice B k.length b] 48)).alloc (.cells #[.bool t, .slice C l'.length c, .slice D k'.length d] 48)).alloc (.cells #[.bool false, .slice none 0 0, .slice none 0 0] 48)).cell? ⟨(w.heap.size + 1), 2, none⟩ = some (.slice D k'.length d) := ⟨bA.c0, bA.c1, bA.c2, bB.c0, bB.c1, bB.c2⟩
  have hj := rjoin_Div (w := (((w.alloc (.cells #[.bool s, .slice A l.length a, .slice B k.length b] 48)).alloc (.cells #[.bool t, .slice C l'.length c, .slice D k'.length d] 48)).alloc (.cells #[.bool false, .slice none 0 0, .slice none 0 0] 48))) (g0 := w.heap.size) (h0 := w.heap.size + 1) (u1.below hB0) (u2.below hB0) (u3.below hB0) (u4.below hB0) q1 q2 q3 q4 o1 o2
    (Lib.hid fun W hW => HN.out W (from_ hB0 hW) (boxQ_keep hs hW)) (Lib.hid fun W hW => HD.out W (from_ hB0 hW) (boxQ_keep hs hW)) HO
  have Hj := Lib.hid hj
  have HB0 := Lib.hid hB0
  have BR0 := Lib.hid bR
  obtain ⟨a0, a1, a2, _, _, _, _⟩ := bA
  obtain ⟨b0, b1, b2, _, _, _, _⟩ := bB
  clear u1 u2 u3 u4 q1 q2 q3 q4 o1 o2 hs hj hB0 bR HN HD HO
  generalize l.length = L1 at *
  generalize k.length = L2 at *
  generalize l'.length = L3 at *
  generalize k'.length = L4 at *
  go_enter Tryz.func29, Tryz.ntmps29
  go_wp2_with fail
  refine Hj.out.mono ?_
  rintro e w4 ⟨An, cn, Ad, cd, rfl, v3, v4, hc4⟩
  have HB5 := Lib.hid (from_ HB0.out hc4)
  have BR5 := Lib.hid (BR0.out.below hc4)
  have hz4 := BR0.out.lt
  have hP := BR5.out.put HB5.out (by omega) (.bool r) (.slice An la.length cn) (.slice Ad ld.length cd)
  have hn5 := hP.keep (fun (h : _ ≤ w.heap.size + 2) => by simp at h hz4; omega) v3
  have hd5 := hP.keep (fun (h : _ ≤ w.heap.size + 2) => by simp at h hz4; omega) v4
  have HN5 := Lib.hid (hn5.mono (Y := new w.heap.size) (new_le HB0.out.size))
  have HD5 := Lib.hid (hd5.mono (Y := new w.heap.size) (new_le HB0.out.size))
  have HP := Lib.hid hP
  obtain ⟨qq0, qq1, qq2, ff0, ff1, ff2, _⟩ := (show Box3 w4 (w.heap.size + 1 + 1) _ _ _ from BR5.out)
  clear hP hn5 hd5 v3 v4 a0 a1 a2 b0 b1 b2
  go_wp2
  refine bodyPost_ret (res_rat2 rfl _ (w.heap.size + 2) rfl HP.out.c0 HP.out.c1 HP.out.c2) rfl ?_
  exact ⟨_, _, _, _, rfl, HN5.out, HD5.out, HP.out.bel⟩

end Go.Proofs.YtceenaegchlbcaaGreatDoor

namespace Go.Proofs.YtceenaegchlbcaaGreatDoor
open Go.RowKit
set_option linter.unusedVariables false
set_option linter.unusedSimpArgs false

theorem mk_pos (x : Int) (d : Nat) : Rat.divInt x (d : Int) = mkRat x d := Rat.divInt_ofNat x d
theorem rat_add (p q : Rat) : Rat.divInt (p.num * (q.den : Int) + q.num * (p.den : Int)) ((p.den : Int) * (q.den : Int)) = p + q := by
  rw [Rat.add_def', ← mk_pos, Int.natCast_mul]
theorem rat_mul (p q : Rat) : Rat.divInt (p.num * q.num) ((p.den : Int) * (q.den : Int)) = p * q := by
  rw [Rat.mul_def', ← mk_pos, Int.natCast_mul]
theorem rat_div (p q : Rat) : Rat.divInt (p.num * (q.den : Int)) ((p.den : Int) * q.num) = p / q := by
  rw [Rat.div_def, Rat.inv_def, ← Rat.divInt_mul_divInt, Rat.num_divInt_den]
theorem lens_q {q : Rat} {s : Bool} {l k : List Nat} (h : NmQ q s l k) : l.length = (limbs q.num.natAbs).length ∧ k.length = (limbs q.den).length := by rw [h.2.1, h.2.2]; exact ⟨rfl, rfl⟩
theorem lz_nat (n : Nat) : (limbs (n : Int).natAbs).length = (limbs n).length := by rw [Int.natAbs_natCast]
/-- How long a fraction of two numbers is. -/
theorem divInt_len {x y : Int} (hy : y ≠ 0) : (limbs (Rat.divInt x y).num.natAbs).length ≤ (limbs x.natAbs).length ∧ (limbs (Rat.divInt x y).den).length ≤ (limbs y.natAbs).length := by
  obtain ⟨h1, h2, _⟩ := divInt_parts (x := x) hy
  rw [h1, h2]
  exact ⟨len_div _ _, len_div _ _⟩
theorem add_len (p q : Rat) : (limbs (p + q).num.natAbs).length ≤ max ((limbs p.num.natAbs).length + (limbs q.den).length) ((limbs q.num.natAbs).length + (limbs p.den).length) + 1 ∧ (limbs (p + q).den).length ≤ (limbs p.den).length + (limbs q.den).length := by
  have hp := p.den_nz
  have hq := q.den_nz
  obtain ⟨h1, h2⟩ := divInt_len (x := p.num * (q.den : Int) + q.num * (p.den : Int)) (y := (p.den : Int) * (q.den : Int)) (Int.mul_ne_zero (by omega) (by omega))
  rw [rat_add] at h1 h2
  have e1 := lz_add (p.num * (q.den : Int)) (q.num * (p.den : Int))
  have e2 := lz_mul p.num (q.den : Int)
  have e3 := lz_mul q.num (p.den : Int)
  have e4 := lz_mul (p.den : Int) (q.den : Int)
  have e5 := lz_nat p.den
  have e6 := lz_nat q.den
  omega
theorem mul_len (p q : Rat) : (limbs (p * q).num.natAbs).length ≤ (limbs p.num.natAbs).length + (limbs q.num.natAbs).length ∧ (limbs (p * q).den).length ≤ (limbs p.den).length + (limbs q.den).length := by
  have hp := p.den_nz
  have hq := q.den_nz
  obtain ⟨h1, h2⟩ := divInt_len (x := p.num * q.num) (y := (p.den : Int) * (q.den : Int)) (Int.mul_ne_zero (by omega) (by omega))
  rw [rat_mul] at h1 h2
  have e2 := lz_mul p.num q.num
  have e4 := lz_mul (p.den : Int) (q.den : Int)
  have e5 := lz_nat p.den
  have e6 := lz_nat q.den
  omega
theorem div_len {p q : Rat} (h : q.num ≠ 0) : (limbs (p / q).num.natAbs).length ≤ (limbs p.num.natAbs).length + (limbs q.den).length ∧ (limbs (p / q).den).length ≤ (limbs p.den).length + (limbs q.num.natAbs).length := by
  have hp := p.den_nz
  obtain ⟨h1, h2⟩ := divInt_len (x := p.num * (q.den : Int)) (y := (p.den : Int) * q.num) (Int.mul_ne_zero (by omega) h)
  rw [rat_div] at h1 h2
  have e2 := lz_mul p.num (q.den : Int)
  have e4 := lz_mul (p.den : Int) q.num
  have e5 := lz_nat p.den
  have e6 := lz_nat q.den
  omega

theorem radd_q {w : World} {Z1 Z2 Z3 Z4 : Zone} {s t : Bool} {l k l' k' : List Nat} {A B C D : Option Addr} {a b c d : Nat} {p q z : Rat} {r : Bool} {la ld : List Nat} (hp : NmQ p s l k) (hq : NmQ q t l' k') (hz : NmQ z r la ld) (he : p + q = z) (u1 : U64s w Z1 A a l) (u2 : U64s w Z2 B b k) (u3 : U64s w Z3 C c l') (u4 : U64s w Z4 D d k') (q1 : l.length ≤ 2000) (q2 : k.length ≤ 2000) (q3 : l'.length ≤ 2000) (q4 : k'.length ≤ 2000) :
    Calls Tryz.prog 23 #[.agg #[.bool s, .slice A l.length a, .slice B k.length b], .agg #[.bool t, .slice C l'.length c, .slice D k'.length d]] w fun e w' => ∃ An cn Ad cd, e = .returned (.tuple #[.agg #[.bool r, .slice An la.length cn, .slice Ad ld.length cd], .int .i64 0]) ∧ U64s w' (new w.heap.size) An cn la ∧ U64s w' (new w.heap.size) Ad cd ld ∧ Below w.heap.size w w' := by
  obtain ⟨r1, m1, n1⟩ : ∃ s l, Nm (p.num * (q.den : Int) + q.num * (p.den : Int)) s l := ⟨_, _, Nm.mk' _⟩
  obtain ⟨r2, m2, n2⟩ : ∃ s l, Nm ((p.den : Int) * (q.den : Int)) s l := ⟨_, _, Nm.mk' _⟩
  have f0 := n1.len
  have f1 := n2.len
  have f2 := hp.num.len
  have f3 := hp.den.len
  have f4 := hq.num.len
  have f5 := hq.den.len
  have e0 := lz_mul p.num (q.den : Int)
  have e1 := lz_mul q.num (p.den : Int)
  have e2 := lz_mul (p.den : Int) (q.den : Int)
  have e3 := lz_add (p.num * (q.den : Int)) (q.num * (p.den : Int))
  have e7 := lz_mul p.num q.num
  have e8 := lz_mul (p.den : Int) q.num
  refine radd_at u1 u2 u3 u4 q1 q2 q3 q4 hp.ok hq.ok (r1 := r1) (m1 := m1) (r2 := r2) (m2 := m2)
    (Lib.hid fun W hW hs => radd1 hs hp hq n1 (by omega) (by omega) (by omega) (by omega) (u1.below hW) (u2.below hW) (u3.below hW) (u4.below hW))
    (Lib.hid fun W hW hs => radd2 hs hp hq n2 (by omega) (by omega) (by omega) (by omega) (u1.below hW) (u2.below hW) (u3.below hW) (u4.below hW))
    (Lib.hid fun W Y1 Y2 A1 c1 A2 c2 v1 v2 => ratof_q n1 n2 (Int.mul_ne_zero (by have := p.den_nz; omega) (by have := q.den_nz; omega)) hz (by rw [← he]; exact rat_add p q) (by omega) (by omega) v1 v2)

theorem rmul_q {w : World} {Z1 Z2 Z3 Z4 : Zone} {s t : Bool} {l k l' k' : List Nat} {A B C D : Option Addr} {a b c d : Nat} {p q z : Rat} {r : Bool} {la ld : List Nat} (hp : NmQ p s l k) (hq : NmQ q t l' k') (hz : NmQ z r la ld) (he : p * q = z) (u1 : U64s w Z1 A a l) (u2 : U64s w Z2 B b k) (u3 : U64s w Z3 C c l') (u4 : U64s w Z4 D d k') (q1 : l.length ≤ 2000) (q2 : k.length ≤ 2000) (q3 : l'.length ≤ 2000) (q4 : k'.length ≤ 2000) :
    Calls Tryz.prog 27 #[.agg #[.bool s, .slice A l.length a, .slice B k.length b], .agg #[.bool t, .slice C l'.length c, .slice D k'.length d]] w fun e w' => ∃ An cn Ad cd, e = .returned (.tuple #[.agg #[.bool r, .slice An la.length cn, .slice Ad ld.length cd], .int .i64 0]) ∧ U64s w' (new w.heap.size) An cn la ∧ U64s w' (new w.heap.size) Ad cd ld ∧ Below w.heap.size w w' := by
  obtain ⟨r1, m1, n1⟩ : ∃ s l, Nm (p.num * q.num) s l := ⟨_, _, Nm.mk' _⟩
  obtain ⟨r2, m2, n2⟩ : ∃ s l, Nm ((p.den : Int) * (q.den : Int)) s l := ⟨_, _, Nm.mk' _⟩
  have f0 := n1.len
  have f1 := n2.len
  have f2 := hp.num.len
  have f3 := hp.den.len
  have f4 := hq.num.len
  have f5 := hq.den.len
  have e0 := lz_mul p.num (q.den : Int)
  have e1 := lz_mul q.num (p.den : Int)
  have e2 := lz_mul (p.den : Int) (q.den : Int)
  have e3 := lz_add (p.num * (q.den : Int)) (q.num * (p.den : Int))
  have e7 := lz_mul p.num q.num
  have e8 := lz_mul (p.den : Int) q.num
  refine rmul_at u1 u2 u3 u4 q1 q2 q3 q4 hp.ok hq.ok (r1 := r1) (m1 := m1) (r2 := r2) (m2 := m2)
    (Lib.hid fun W hW hs => rmul1 hs hp hq n1 (by omega) (by omega) (by omega) (by omega) (u1.below hW) (u2.below hW) (u3.below hW) (u4.below hW))
    (Lib.hid fun W hW hs => rmul2 hs hp hq n2 (by omega) (by omega) (by omega) (by omega) (u1.below hW) (u2.below hW) (u3.below hW) (u4.below hW))
    (Lib.hid fun W Y1 Y2 A1 c1 A2 c2 v1 v2 => ratof_q n1 n2 (Int.mul_ne_zero (by have := p.den_nz; omega) (by have := q.den_nz; omega)) hz (by rw [← he]; exact rat_mul p q) (by omega) (by omega) v1 v2)

theorem rdiv_q {w : World} {Z1 Z2 Z3 Z4 : Zone} {s t : Bool} {l k l' k' : List Nat} {A B C D : Option Addr} {a b c d : Nat} {p q z : Rat} {r : Bool} {la ld : List Nat} (hp : NmQ p s l k) (hq : NmQ q t l' k') (hz : NmQ z r la ld) (he : p / q = z) (hq0 : q.num ≠ 0) (u1 : U64s w Z1 A a l) (u2 : U64s w Z2 B b k) (u3 : U64s w Z3 C c l') (u4 : U64s w Z4 D d k') (q1 : l.length ≤ 2000) (q2 : k.length ≤ 2000) (q3 : l'.length ≤ 2000) (q4 : k'.length ≤ 2000) :
    Calls Tryz.prog 29 #[.agg #[.bool s, .slice A l.length a, .slice B k.length b], .agg #[.bool t, .slice C l'.length c, .slice D k'.length d]] w fun e w' => ∃ An cn Ad cd, e = .returned (.tuple #[.agg #[.bool r, .slice An la.length cn, .slice Ad ld.length cd], .int .i64 0]) ∧ U64s w' (new w.heap.size) An cn la ∧ U64s w' (new w.heap.size) Ad cd ld ∧ Below w.heap.size w w' := by
  obtain ⟨r1, m1, n1⟩ : ∃ s l, Nm (p.num * (q.den : Int)) s l := ⟨_, _, Nm.mk' _⟩
  obtain ⟨r2, m2, n2⟩ : ∃ s l, Nm ((p.den : Int) * q.num) s l := ⟨_, _, Nm.mk' _⟩
  have f0 := n1.len
  have f1 := n2.len
  have f2 := hp.num.len
  have f3 := hp.den.len
  have f4 := hq.num.len
  have f5 := hq.den.len
  have e0 := lz_mul p.num (q.den : Int)
  have e1 := lz_mul q.num (p.den : Int)
  have e2 := lz_mul (p.den : Int) (q.den : Int)
  have e3 := lz_add (p.num * (q.den : Int)) (q.num * (p.den : Int))
  have e7 := lz_mul p.num q.num
  have e8 := lz_mul (p.den : Int) q.num
  refine rdiv_at u1 u2 u3 u4 q1 q2 q3 q4 hp.ok hq.ok (r1 := r1) (m1 := m1) (r2 := r2) (m2 := m2)
    (Lib.hid fun W hW hs => rdiv1 hs hp hq n1 (by omega) (by omega) (by omega) (by omega) (u1.below hW) (u2.below hW) (u3.below hW) (u4.below hW))
    (Lib.hid fun W hW hs => rdiv2 hs hp hq n2 (by omega) (by omega) (by omega) (by omega) (u1.below hW) (u2.below hW) (u3.below hW) (u4.below hW))
    (Lib.hid fun W Y1 Y2 A1 c1 A2 c2 v1 v2 => ratof_q n1 n2 (Int.mul_ne_zero (by have := p.den_nz; omega) hq0) hz (by rw [← he]; exact rat_div p q) (by omega) (by omega) v1 v2)

end Go.Proofs.YtceenaegchlbcaaGreatDoor

namespace Go.Proofs.YtceenaegchlbcaaGreatDoor
open Go.RowKit
set_option linter.unusedVariables false
set_option linter.unusedSimpArgs false

set_option maxRecDepth 100000 in
set_option maxHeartbeats 2000000 in
theorem rjoin_err {w : World} {Z1 Z2 Z3 Z4 : Zone} {s t : Bool} {l k l' k' : List Nat} {A B C D : Option Addr} {a b c d : Nat} (u1 : U64s w Z1 A a l) (u2 : U64s w Z2 B b k) (u3 : U64s w Z3 C c l') (u4 : U64s w Z4 D d k') (q1 : l.length ≤ 2000) (q2 : k.length ≤ 2000) (q3 : l'.length ≤ 2000) (q4 : k'.length ≤ 2000) {f1 f2 : Value} (ho : ¬ (okQ s l k = true ∧ okQ t l' k' = true)) :
    Calls Tryz.prog 75 #[.agg #[.bool s, .slice A l.length a, .slice B k.length b], .agg #[.bool t, .slice C l'.length c, .slice D k'.length d], f1, f2] w fun e w' => e = .returned (.tuple #[.agg #[.bool false, .slice none 0 0, .slice none 0 0], .int .i64 8]) ∧ Below w.heap.size w w' := by
  obtain ⟨bA, bB, bR, hB0⟩ := boxesQ w (.bool s) (.slice A l.length a) (.slice B k.length b) (.bool t) (.slice C l'.length c) (.slice D k'.length d) (.bool false) (.slice none 0 0) (.slice none 0 0)
  have Hck := Lib.hid (joinedHead u1 u2 u3 u4 q1 q2 q3 q4 (E := 8) (by rw [errFs_two]; exact if_neg ho))
  have hal : Below (((w.alloc (.cells #[.bool s, .slice A l.length a, .slice B k.length b] 48)).alloc (.cells #[.bool t, .slice C l'.length c, .slice D k'.length d] 48)).alloc (.cells #[.bool false, .slice none 0 0, .slice none 0 0] 48)).heap.size (((w.alloc (.cells #[.bool s, .slice A l.length a, .slice B k.length b] 48)).alloc (.cells #[.bool t, .slice C l'.length c, .slice D k'.length d] 48)).alloc (.cells #[.bool false, .slice none 0 0, .slice none 0 0] 48)) ((((w.alloc (.cells #[.bool s, .slice A l.length a, .slice B k.length b] 48)).alloc (.cells #[.bool t, .slice C l'.length c, .slice D k'.length d] 48)).alloc (.cells #[.bool false, .slice none 0 0, .slice none 0 0] 48)).alloc (.cells #[.bool s, .slice A l.length a, .slice B k.length b, .bool t, .slice C l'.length c, .slice D k'.length d] 48)) := (Below.refl _ _).alloc (Nat.le_refl _) _
  have HB1 := Lib.hid (from_ hB0 hal)
  have BR1 := Lib.hid (bR.below hal)
  obtain ⟨a0, a1, a2, _, _, _, _⟩ := bA
  obtain ⟨b0, b1, b2, _, _, _, _⟩ := bB
  clear u1 u2 u3 u4 q1 q2 q3 q4 ho hal hB0 bR
  generalize l.length = L1 at *
  generalize k.length = L2 at *
  generalize l'.length = L3 at *
  generalize k'.length = L4 at *
  go_enter Tryz.func75, Tryz.ntmps75
  go_wp2_with fail
  refine Hck.out.mono ?_
  rintro e w1 ⟨rfl, hc1⟩
  have HB2 := Lib.hid (from_ HB1.out hc1)
  have BR2 := Lib.hid (BR1.out.below hc1)
  have HP := Lib.hid (BR2.out.put HB2.out (by omega) (.bool false) (.slice none 0 0) (.slice none 0 0))
  obtain ⟨qq0, qq1, qq2, ff0, ff1, ff2, _⟩ := (show Box3 w1 (w.heap.size + 1 + 1) _ _ _ from BR2.out)
  clear a0 a1 a2 b0 b1 b2
  go_wp2
  refine bodyPost_ret (res_rat2 rfl _ (w.heap.size + 2) rfl HP.out.c0 HP.out.c1 HP.out.c2) rfl ?_
  exact ⟨rfl, HP.out.bel⟩

set_option maxRecDepth 100000 in
set_option maxHeartbeats 2000000 in
theorem radd_err {w : World} {Z1 Z2 Z3 Z4 : Zone} {s t : Bool} {l k l' k' : List Nat} {A B C D : Option Addr} {a b c d : Nat} (u1 : U64s w Z1 A a l) (u2 : U64s w Z2 B b k) (u3 : U64s w Z3 C c l') (u4 : U64s w Z4 D d k') (q1 : l.length ≤ 2000) (q2 : k.length ≤ 2000) (q3 : l'.length ≤ 2000) (q4 : k'.length ≤ 2000) (ho : ¬ (okQ s l k = true ∧ okQ t l' k' = true)) :
    Calls Tryz.prog 23 #[.agg #[.bool s, .slice A l.length a, .slice B k.length b], .agg #[.bool t, .slice C l'.length c, .slice D k'.length d]] w fun e w' => e = .returned (.tuple #[.agg #[.bool false, .slice none 0 0, .slice none 0 0], .int .i64 8]) ∧ Below w.heap.size w w' := by
  obtain ⟨bA, bB, bR, hB0⟩ := boxesQ w (.bool s) (.slice A l.length a) (.slice B k.length b) (.bool t) (.slice C l'.length c) (.slice D k'.length d) (.bool false) (.slice none 0 0) (.slice none 0 0)
  have Hj := Lib.hid (fun (f1 f2 : Value) => rjoin_err (w := (((w.alloc (.cells #[.bool s, .slice A l.length a, .slice B k.length b] 48)).alloc (.cells #[.bool t, .slice C l'.length c, .slice D k'.length d] 48)).alloc (.cells #[.bool false, .slice none 0 0, .slice none 0 0] 48))) (f1 := f1) (f2 := f2) (u1.below hB0) (u2.below hB0) (u3.below hB0) (u4.below hB0) q1 q2 q3 q4 ho)
  have HB0 := Lib.hid hB0
  have BR0 := Lib.hid bR
  obtain ⟨a0, a1, a2, _, _, _, _⟩ := bA
  obtain ⟨b0, b1, b2, _, _, _, _⟩ := bB
  clear u1 u2 u3 u4 q1 q2 q3 q4 ho hB0 bR
  generalize l.length = L1 at *
  generalize k.length = L2 at *
  generalize l'.length = L3 at *
  generalize k'.length = L4 at *
  go_enter Tryz.func23, Tryz.ntmps23
  go_wp2_with fail
  refine (Hj.out _ _).mono ?_
  rintro e w4 ⟨rfl, hc4⟩
  have HB5 := Lib.hid (from_ HB0.out hc4)
  have BR5 := Lib.hid (BR0.out.below hc4)
  have HP := Lib.hid (BR5.out.put HB5.out (by omega) (.bool false) (.slice none 0 0) (.slice none 0 0))
  obtain ⟨qq0, qq1, qq2, ff0, ff1, ff2, _⟩ := (show Box3 w4 (w.heap.size + 1 + 1) _ _ _ from BR5.out)
  clear a0 a1 a2 b0 b1 b2
  go_wp2
  refine bodyPost_ret (res_rat2 rfl _ (w.heap.size + 2) rfl HP.out.c0 HP.out.c1 HP.out.c2) rfl ?_
  exact ⟨rfl, HP.out.bel⟩

theorem rdiv_zero {w : World} {Z1 Z2 Z3 Z4 : Zone} {s t : Bool} {l k l' k' : List Nat} {A B C D : Option Addr} {a b c d : Nat} {p q : Rat} (hp : NmQ p s l k) (hq : NmQ q t l' k') (hq0 : q.num = 0) (u1 : U64s w Z1 A a l) (u2 : U64s w Z2 B b k) (u3 : U64s w Z3 C c l') (u4 : U64s w Z4 D d k') (q1 : l.length ≤ 2000) (q2 : k.length ≤ 2000) (q3 : l'.length ≤ 2000) (q4 : k'.length ≤ 2000) :
    Calls Tryz.prog 29 #[.agg #[.bool s, .slice A l.length a, .slice B k.length b], .agg #[.bool t, .slice C l'.length c, .slice D k'.length d]] w fun e w' => ∃ An cn Ad cd, e = .returned (.tuple #[.agg #[.bool false, .slice An 0 cn, .slice Ad 0 cd], .int .i64 30]) ∧ U64s w' (new w.heap.size) An cn [] ∧ U64s w' (new w.heap.size) Ad cd [] ∧ Below w.heap.size w w' := by
  obtain ⟨r1, m1, n1⟩ : ∃ s l, Nm (p.num * (q.den : Int)) s l := ⟨_, _, Nm.mk' _⟩
  obtain ⟨r2, m2, n2⟩ : ∃ s l, Nm ((p.den : Int) * q.num) s l := ⟨_, _, Nm.mk' _⟩
  have h0 : m2.length = 0 := by
    rw [n2.2, hq0, Int.mul_zero]
    rfl
  have hE : errQ r1 m1 r2 m2 = 30 := by
    unfold errQ
    rw [if_pos ⟨n1.okI, n2.okI⟩, if_pos h0]
  exact rdiv_at u1 u2 u3 u4 q1 q2 q3 q4 hp.ok hq.ok (r1 := r1) (m1 := m1) (r2 := r2) (m2 := m2) (r := false) (la := []) (ld := []) (E := 30)
    (Lib.hid fun W hW hs => rdiv1 hs hp hq n1 (by omega) (by omega) (by omega) (by omega) (u1.below hW) (u2.below hW) (u3.below hW) (u4.below hW))
    (Lib.hid fun W hW hs => rdiv2 hs hp hq n2 (by omega) (by omega) (by omega) (by omega) (u1.below hW) (u2.below hW) (u3.below hW) (u4.below hW))
    (Lib.hid fun W Y1 Y2 A1 c1 A2 c2 v1 v2 => by
      refine (ratof_err v1 v2 hE (.inr rfl)).mono ?_
      rintro e w' ⟨rfl, hb⟩
      exact ⟨none, 0, none, 0, rfl, U64s.nil _ _, U64s.nil _ _, hb⟩)

theorem stQ3 {W : World} {g r i : Nat} {v x y z : Value} (h : W.cell? ⟨g, i, none⟩ = some v) (hn : r ≠ g) : (((W.setCell ⟨r, 0, none⟩ x).setCell ⟨r, 1, none⟩ y).setCell ⟨r, 2, none⟩ z).cell? ⟨g, i, none⟩ = some v := by
  rw [World.cell?_setCell_other _ _ _ _ (fun e => hn (by injection e)), World.cell?_setCell_other _ _ _ _ (fun e => hn (by injection e)), World.cell?_setCell_other _ _ _ _ (fun e => hn (by injection e))]
  exact h
theorem boxQ_st3 {W : World} {g h r : Nat} {x0 x1 x2 y0 y1 y2 x y z : Value} (hg : r ≠ g) (hh : r ≠ h) (hs : W.cell? ⟨g, 0, none⟩ = some (x0) ∧ W.cell? ⟨g, 1, none⟩ = some (x1) ∧ W.cell? ⟨g, 2, none⟩ = some (x2) ∧ W.cell? ⟨h, 0, none⟩ = some (y0) ∧ W.cell? ⟨h, 1, none⟩ = some (y1) ∧ W.cell? ⟨h, 2, none⟩ = some (y2)) :
    let V := ((W.setCell ⟨r, 0, none⟩ x).setCell ⟨r, 1, none⟩ y).setCell ⟨r, 2, none⟩ z
    V.cell? ⟨g, 0, none⟩ = some (x0) ∧ V.cell? ⟨g, 1, none⟩ = some (x1) ∧ V.cell? ⟨g, 2, none⟩ = some (x2) ∧ V.cell? ⟨h, 0, none⟩ = some (y0) ∧ V.cell? ⟨h, 1, none⟩ = some (y1) ∧ V.cell? ⟨h, 2, none⟩ = some (y2) := by
  obtain ⟨h0, h1, h2, h3, h4, h5⟩ := hs
  exact ⟨stQ3 h0 hg, stQ3 h1 hg, stQ3 h2 hg, stQ3 h3 hh, stQ3 h4 hh, stQ3 h5 hh⟩

theorem nmq_neg {q : Rat} {t : Bool} {l k : List Nat} (h : NmQ q t l k) : NmQ (-q) (!t && decide (0 < l.length)) l k := by
  obtain ⟨h1, h2, h3⟩ := h
  refine ⟨?_, by rw [Rat.neg_num, Int.natAbs_neg]; exact h2, by rw [Rat.neg_den]; exact h3⟩
  have e0 : (0 < l.length) ↔ q.num ≠ 0 := by rw [h2, len_pos]; omega
  have e0' : decide (0 < l.length) = decide (q.num ≠ 0) := decide_eq_decide.2 e0
  rw [e0', h1, Rat.neg_num, Bool.eq_iff_iff]
  simp only [Bool.and_eq_true, Bool.not_eq_true', decide_eq_true_iff, decide_eq_false_iff_not, ne_eq]
  omega

set_option maxRecDepth 100000 in
set_option maxHeartbeats 2000000 in
theorem rsub_q {w : World} {Z1 Z2 Z3 Z4 : Zone} {s t : Bool} {l k l' k' : List Nat} {A B C D : Option Addr} {a b c d : Nat} {p q z : Rat} {r : Bool} {la ld : List Nat} (hp : NmQ p s l k) (hq : NmQ q t l' k') (hz : NmQ z r la ld) (he : p - q = z) (u1 : U64s w Z1 A a l) (u2 : U64s w Z2 B b k) (u3 : U64s w Z3 C c l') (u4 : U64s w Z4 D d k') (q1 : l.length ≤ 2000) (q2 : k.length ≤ 2000) (q3 : l'.length ≤ 2000) (q4 : k'.length ≤ 2000) :
    Calls Tryz.prog 25 #[.agg #[.bool s, .slice A l.length a, .slice B k.length b], .agg #[.bool t, .slice C l'.length c, .slice D k'.length d]] w fun e w' => ∃ An cn Ad cd, e = .returned (.tuple #[.agg #[.bool r, .slice An la.length cn, .slice Ad ld.length cd], .int .i64 0]) ∧ U64s w' (new w.heap.size) An cn la ∧ U64s w' (new w.heap.size) Ad cd ld ∧ Below w.heap.size w w' := by
  obtain ⟨bA, bB, bR, hB0⟩ := boxesQ w (.bool s) (.slice A l.length a) (.slice B k.length b) (.bool t) (.slice C l'.length c) (.slice D k'.length d) (.bool false) (.slice none 0 0) (.slice none 0 0)
  have Hck := Lib.hid (joinedHead u1 u2 u3 u4 q1 q2 q3 q4 (E := 0) (by rw [errFs_two]; exact if_pos ⟨hp.ok, hq.ok⟩))
  obtain ⟨t2, ht2⟩ : ∃ t2, t2 = (!t && decide (0 < l'.length)) := ⟨_, rfl⟩
  have hnq := nmq_neg hq
  rw [← ht2] at hnq
  have Ng := Lib.hid (fun (W : World) => rneg_n (w := W) (s := t) (l := l') (k := k') (A := C) (B := D) (c := c) (d := d) ht2.symm)
  have CA := Lib.hid (fun (W : World) (hW : Below w.heap.size w W) => radd_q hp hnq hz (by rw [← he, Rat.sub_eq_add_neg]) (u1.below hW) (u2.below hW) (u3.below hW) (u4.below hW) q1 q2 q3 q4)
  have hal : Below (((w.alloc (.cells #[.bool s, .slice A l.length a, .slice B k.length b] 48)).alloc (.cells #[.bool t, .slice C l'.length c, .slice D k'.length d] 48)).alloc (.cells #[.bool false, .slice none 0 0, .slice none 0 0] 48)).heap.size (((w.alloc (.cells #[.bool s, .slice A l.length a, .slice B k.length b] 48)).alloc (.cells #[.bool t, .slice C l'.length c, .slice D k'.length d] 48)).alloc (.cells #[.bool false, .slice none 0 0, .slice none 0 0] 48)) ((((w.alloc (.cells #[.bool s, .slice A l.length a, .slice B k.length b] 48)).alloc (.cells #[.bool t, .slice C l'.length c, .slice D k'.length d] 48)).alloc (.cells #[.bool false, .slice none 0 0, .slice none 0 0] 48)).alloc (.cells #[.bool s, .slice A l.length a, .slice B k.length b, .bool t, .slice C l'.length c, .slice D k'.length d] 48)) := (Below.refl _ _).alloc (Nat.le_refl _) _
  have hs0 : (((w.alloc (.cells #[.bool s, .slice A l.length a, .slice B k.length b] 48)).alloc (.cells #[.bool t, .slice C l'.length c, .slice D k'.length d] 48)).alloc (.cells #[.bool false, .slice none 0 0, .slice none 0 0] 48)).cell? ⟨w.heap.size, 0, none⟩ = some (.bool s) ∧ (((w.alloc (.cells #[.bool s, .slice A l.length a, .slice B k.length b] 48)).alloc (.cells #[.bool t, .slice C l'.length c, .slice D k'.length d] 48)).alloc (.cells #[.bool false, .slice none 0 0, .slice none 0 0] 48)).cell? ⟨w.heap.size, 1, none⟩ = some (.slice A l.length a) ∧ (((w.alloc (.cells #[.bool s, .slice A l.length a, .slice B k.length b] 48)).alloc (.cells #[.bool t, .slice C l'.length c, .slice D k'.length d] 48)).alloc (.cells #[.bool false, .slice none 0 0, .slice none 0 0] 48)).cell? ⟨w.heap.size, 2, none⟩ = some (.slice B k.length b) ∧ (((w.alloc (.cells #[.bool s, .slice A l.length a, .slice B k.length b] 48)).alloc (.cells #[.bool t, .slice C l'.length c, .slice D k'.length d] 48)).alloc (.cells #[.bool false, .slice none 0 0, .slice none 0 0] 48)).cell? ⟨(w.heap.size + 1), 0, none⟩ = some (.bool t) ∧ (((w.alloc (.cells #[.bool s, .slice A l.length a, .slice B k.length b] 48)).alloc (.cells #[.bool t, .slice C l'.length c, .slice D k'.length d] 48)).alloc (.cells #[.bool false, .slice none 0 0, .slice none 0 0] 48)).cell? ⟨(w.heap.size + 1), 1, none⟩ = some (.slice C l'.length c) ∧ (((w.alloc (.cells #[.bool s, .slice A l.length a, .slice B k.length b] 48)).alloc (.cells #[.bool t, .slice C l'.length c, .slice D k'.length d] 48)).alloc (.cells #[.bool false, .slice none 0 0, .slice none 0 0] 48)).cell? ⟨(w.heap.size + 1), 2, none⟩ = some (.slice D k'.length d) := ⟨bA.c0, bA.c1, bA.c2, bB.c0, bB.c1, bB.c2⟩
  have HS := Lib.hid (boxQ_keep hs0 hal)
  have HB1 := Lib.hid (from_ hB0 hal)
  have BR1 := Lib.hid (bR.below hal)
  obtain ⟨a0, a1, a2, _, _, _, _⟩ := bA
  obtain ⟨b0, b1, b2, _, _, _, _⟩ := bB
  clear u1 u2 u3 u4 q1 q2 q3 q4 hp hq hz he hnq ht2 hal hB0 bR hs0
  go_enter Tryz.func25, Tryz.ntmps25
  go_wp2_with fail
  refine Hck.out.mono ?_
  rintro e w1 ⟨rfl, hc1⟩
  have hs := boxQ_keep (boxQ_keep HS.out hc1) (Below.refl _ _).drew
  have Hc := Lib.hid ((from_ HB1.out hc1).drew)
  have BRx : Box3 _ (w.heap.size + 1 + 1) _ _ _ := (BR1.out.below hc1).below (Below.refl _ _).drew
  have HR := Lib.hid BRx
  clear a0 a1 a2 b0 b1 b2 HS HB1 BR1 BRx Hck hc1
  go_wp2
  generalize hgR : w.heap.size + 1 + 1 = gR at *
  have N1 := Lib.hid (show gR ≠ w.heap.size by omega)
  have N2 := Lib.hid (show gR ≠ w.heap.size + 1 by omega)
  have N3 := Lib.hid (show w.heap.size ≤ gR by omega)
  clear hgR
  go_region_held3 (fun w' => w'.cell? ⟨w.heap.size, 0, none⟩ = some (.bool s) ∧ w'.cell? ⟨w.heap.size, 1, none⟩ = some (.slice A l.length a) ∧ w'.cell? ⟨w.heap.size, 2, none⟩ = some (.slice B k.length b) ∧ w'.cell? ⟨(w.heap.size + 1), 0, none⟩ = some (.bool t) ∧ w'.cell? ⟨(w.heap.size + 1), 1, none⟩ = some (.slice C l'.length c) ∧ w'.cell? ⟨(w.heap.size + 1), 2, none⟩ = some (.slice D k'.length d))
    (first
      | with_reducible exact hs
      | with_reducible exact boxQ_st3 N1.out N2.out hs)
    (first
      | (go_at_call 84; with_reducible refine (Ng.out _).mono ?_; rintro e w' ⟨rfl, hc⟩; replace hs := boxQ_keep hs hc; replace HR := Lib.hid (HR.out.below hc); replace Hc := Lib.hid (from_ Hc.out hc))
      | (go_at_call 23; with_reducible refine (CA.out _ Hc.out).mono ?_; rintro e w' ⟨An, cn, Ad, cd, rfl, v3, v4, hc⟩; replace hs := boxQ_keep hs hc; have zl := HR.out.lt; replace HR := Lib.hid (HR.out.below hc); have Hp := Hc; replace Hc := Lib.hid (from_ Hc.out hc); obtain ⟨qq0, qq1, qq2, ff0, ff1, ff2, _⟩ := id HR.out))
  all_goals
    have HP := Lib.hid (HR.out.put Hc.out N3.out (.bool r) (.slice An la.length cn) (.slice Ad ld.length cd))
    have HN5 := Lib.hid ((HP.out.keep (fun (h : _ ≤ gR) => by omega) v3).mono (Y := new w.heap.size) (new_le Hp.out.size))
    have HD5 := Lib.hid ((HP.out.keep (fun (h : _ ≤ gR) => by omega) v4).mono (Y := new w.heap.size) (new_le Hp.out.size))
    clear v3 v4
    go_wp2
    refine bodyPost_ret (res_rat2 rfl _ gR rfl HP.out.c0 HP.out.c1 HP.out.c2) rfl ?_
    exact ⟨_, _, _, _, rfl, HN5.out, HD5.out, HP.out.bel⟩

set_option maxRecDepth 100000 in
set_option maxHeartbeats 2000000 in
theorem rsub_err {w : World} {Z1 Z2 Z3 Z4 : Zone} {s t : Bool} {l k l' k' : List Nat} {A B C D : Option Addr} {a b c d : Nat} (u1 : U64s w Z1 A a l) (u2 : U64s w Z2 B b k) (u3 : U64s w Z3 C c l') (u4 : U64s w Z4 D d k') (q1 : l.length ≤ 2000) (q2 : k.length ≤ 2000) (q3 : l'.length ≤ 2000) (q4 : k'.length ≤ 2000) (ho : ¬ (okQ s l k = true ∧ okQ t l' k' = true)) :
    Calls Tryz.prog 25 #[.agg #[.bool s, .slice A l.length a, .slice B k.length b], .agg #[.bool t, .slice C l'.length c, .slice D k'.length d]] w fun e w' => e = .returned (.tuple #[.agg #[.bool false, .slice none 0 0, .slice none 0 0], .int .i64 8]) ∧ Below w.heap.size w w' := by
  obtain ⟨bA, bB, bR, hB0⟩ := boxesQ w (.bool s) (.slice A l.length a) (.slice B k.length b) (.bool t) (.slice C l'.length c) (.slice D k'.length d) (.bool false) (.slice none 0 0) (.slice none 0 0)
  have Hck := Lib.hid (joinedHead u1 u2 u3 u4 q1 q2 q3 q4 (E := 8) (by rw [errFs_two]; exact if_neg ho))
  have hal : Below (((w.alloc (.cells #[.bool s, .slice A l.length a, .slice B k.length b] 48)).alloc (.cells #[.bool t, .slice C l'.length c, .slice D k'.length d] 48)).alloc (.cells #[.bool false, .slice none 0 0, .slice none 0 0] 48)).heap.size (((w.alloc (.cells #[.bool s, .slice A l.length a, .slice B k.length b] 48)).alloc (.cells #[.bool t, .slice C l'.length c, .slice D k'.length d] 48)).alloc (.cells #[.bool false, .slice none 0 0, .slice none 0 0] 48)) ((((w.alloc (.cells #[.bool s, .slice A l.length a, .slice B k.length b] 48)).alloc (.cells #[.bool t, .slice C l'.length c, .slice D k'.length d] 48)).alloc (.cells #[.bool false, .slice none 0 0, .slice none 0 0] 48)).alloc (.cells #[.bool s, .slice A l.length a, .slice B k.length b, .bool t, .slice C l'.length c, .slice D k'.length d] 48)) := (Below.refl _ _).alloc (Nat.le_refl _) _
  have HB1 := Lib.hid (from_ hB0 hal)
  have BR1 := Lib.hid (bR.below hal)
  obtain ⟨a0, a1, a2, _, _, _, _⟩ := bA
  obtain ⟨b0, b1, b2, _, _, _, _⟩ := bB
  clear u1 u2 u3 u4 q1 q2 q3 q4 ho hal hB0 bR
  generalize l.length = L1 at *
  generalize k.length = L2 at *
  generalize l'.length = L3 at *
  generalize k'.length = L4 at *
  go_enter Tryz.func25, Tryz.ntmps25
  go_wp2_with fail
  refine Hck.out.mono ?_
  rintro e w1 ⟨rfl, hc1⟩
  have HB2 := Lib.hid (from_ HB1.out hc1)
  have BR2 := Lib.hid (BR1.out.below hc1)
  have HP := Lib.hid (BR2.out.put HB2.out (by omega) (.bool false) (.slice none 0 0) (.slice none 0 0))
  obtain ⟨qq0, qq1, qq2, ff0, ff1, ff2, _⟩ := (show Box3 w1 (w.heap.size + 1 + 1) _ _ _ from BR2.out)
  clear a0 a1 a2 b0 b1 b2
  go_wp2
  refine bodyPost_ret (res_rat2 rfl _ (w.heap.size + 2) rfl HP.out.c0 HP.out.c1 HP.out.c2) rfl ?_
  exact ⟨rfl, HP.out.bel⟩

end Go.Proofs.YtceenaegchlbcaaGreatDoor

namespace Go.Proofs.YtceenaegchlbcaaGreatDoor
open Go.RowKit
set_option linter.unusedVariables false
set_option linter.unusedSimpArgs false

theorem boxes2Q (w : World) (a0 a1 a2 b0 b1 b2 : Value) :
    Box3 ((w.alloc (.cells #[a0, a1, a2] 48)).alloc (.cells #[b0, b1, b2] 48)) w.heap.size a0 a1 a2 ∧
    Box3 ((w.alloc (.cells #[a0, a1, a2] 48)).alloc (.cells #[b0, b1, b2] 48)) (w.heap.size + 1) b0 b1 b2 ∧
    Below w.heap.size w ((w.alloc (.cells #[a0, a1, a2] 48)).alloc (.cells #[b0, b1, b2] 48)) := by
  have h1 := (Box3.new w a0 a1 a2 48).alloc (.cells #[b0, b1, b2] 48)
  have h2 := Box3.new (w.alloc (.cells #[a0, a1, a2] 48)) b0 b1 b2 48
  rw [show (w.alloc (.cells #[a0, a1, a2] 48)).heap.size = w.heap.size + 1 by simp] at h2
  exact ⟨h1, h2, ((Below.refl _ w).alloc (Nat.le_refl _) _).alloc (by simp) _⟩

set_option maxRecDepth 100000 in
set_option maxHeartbeats 2000000 in
theorem rcmp_q {w : World} {Z1 Z2 Z3 Z4 : Zone} {s t : Bool} {l k l' k' : List Nat} {A B C D : Option Addr} {a b c d : Nat} {p q : Rat} {g : Int} (hp : NmQ p s l k) (hq : NmQ q t l' k') (hg : sgn (p - q).num = g) (u1 : U64s w Z1 A a l) (u2 : U64s w Z2 B b k) (u3 : U64s w Z3 C c l') (u4 : U64s w Z4 D d k') (q1 : l.length ≤ 2000) (q2 : k.length ≤ 2000) (q3 : l'.length ≤ 2000) (q4 : k'.length ≤ 2000) :
    Calls Tryz.prog 31 #[.agg #[.bool s, .slice A l.length a, .slice B k.length b], .agg #[.bool t, .slice C l'.length c, .slice D k'.length d]] w fun e w' => e = .returned (.tuple #[.int .i64 g, .int .i64 0]) ∧ Below w.heap.size w w' := by
  obtain ⟨bA, bB, hB0⟩ := boxes2Q w (.bool s) (.slice A l.length a) (.slice B k.length b) (.bool t) (.slice C l'.length c) (.slice D k'.length d)
  obtain ⟨r, la, ld, hz⟩ : ∃ r la ld, NmQ (p - q) r la ld := ⟨_, _, _, NmQ.mk' _⟩
  have CS := Lib.hid (rsub_q hp hq hz rfl (u1.below hB0) (u2.below hB0) (u3.below hB0) (u4.below hB0) q1 q2 q3 q4)
  have SG := Lib.hid (fun (W : World) (Z : Zone) (A1 : Option Addr) (c1 : Nat) (h : U64s W Z A1 c1 la) => sign_n hz.num hg h)
  have HB0 := Lib.hid hB0
  obtain ⟨a0, a1, a2, _, _, _, _⟩ := bA
  obtain ⟨b0, b1, b2, _, _, _, _⟩ := bB
  clear u1 u2 u3 u4 q1 q2 q3 q4 hp hq hz hg hB0
  generalize l.length = L1 at *
  generalize k.length = L2 at *
  generalize l'.length = L3 at *
  generalize k'.length = L4 at *
  go_enter Tryz.func31, Tryz.ntmps31
  go_wp2_with fail
  refine CS.out.mono ?_
  rintro e w1 ⟨An, cn, Ad, cd, rfl, v3, v4, hc⟩
  have HB1 := Lib.hid (from_ HB0.out hc)
  have v5 := v3.below (box_rat w1 (.bool r) (.slice An la.length cn) (.slice Ad ld.length cd) |>.mono (Nat.le_refl _))
  have HB2 := Lib.hid (from_ HB1.out (box_rat w1 (.bool r) (.slice An la.length cn) (.slice Ad ld.length cd)))
  clear v3 v4 a0 a1 a2 b0 b1 b2
  go_wp2_with fail
  refine (SG.out _ _ _ _ v5).mono ?_
  rintro e w2 ⟨rfl, hc2⟩
  have HB3 := Lib.hid (from_ HB2.out hc2)
  go_wp2
  go_ret2
  exact ⟨rfl, HB3.out⟩

set_option maxRecDepth 100000 in
set_option maxHeartbeats 2000000 in
theorem rcmp_err {w : World} {Z1 Z2 Z3 Z4 : Zone} {s t : Bool} {l k l' k' : List Nat} {A B C D : Option Addr} {a b c d : Nat} (u1 : U64s w Z1 A a l) (u2 : U64s w Z2 B b k) (u3 : U64s w Z3 C c l') (u4 : U64s w Z4 D d k') (q1 : l.length ≤ 2000) (q2 : k.length ≤ 2000) (q3 : l'.length ≤ 2000) (q4 : k'.length ≤ 2000) (ho : ¬ (okQ s l k = true ∧ okQ t l' k' = true)) :
    Calls Tryz.prog 31 #[.agg #[.bool s, .slice A l.length a, .slice B k.length b], .agg #[.bool t, .slice C l'.length c, .slice D k'.length d]] w fun e w' => e = .returned (.tuple #[.int .i64 0, .int .i64 8]) ∧ Below w.heap.size w w' := by
  obtain ⟨bA, bB, hB0⟩ := boxes2Q w (.bool s) (.slice A l.length a) (.slice B k.length b) (.bool t) (.slice C l'.length c) (.slice D k'.length d)
  have CS := Lib.hid (rsub_err (u1.below hB0) (u2.below hB0) (u3.below hB0) (u4.below hB0) q1 q2 q3 q4 ho)
  have HB0 := Lib.hid hB0
  obtain ⟨a0, a1, a2, _, _, _, _⟩ := bA
  obtain ⟨b0, b1, b2, _, _, _, _⟩ := bB
  clear u1 u2 u3 u4 q1 q2 q3 q4 ho hB0
  generalize l.length = L1 at *
  generalize k.length = L2 at *
  generalize l'.length = L3 at *
  generalize k'.length = L4 at *
  go_enter Tryz.func31, Tryz.ntmps31
  go_wp2_with fail
  refine CS.out.mono ?_
  rintro e w1 ⟨rfl, hc⟩
  have HB1 := Lib.hid (from_ HB0.out hc)
  have HB2 := Lib.hid (from_ HB1.out (box_rat w1 (.bool false) (.slice none 0 0) (.slice none 0 0)))
  clear a0 a1 a2 b0 b1 b2
  go_wp2
  go_ret2
  exact ⟨rfl, HB2.out⟩

theorem stI {W : World} {g r : Nat} {x0 x1 x2 x y : Value} (hg : r ≠ g) (hs : W.cell? ⟨g, 0, none⟩ = some x0 ∧ W.cell? ⟨g, 1, none⟩ = some x1 ∧ W.cell? ⟨g, 2, none⟩ = some x2) :
    let V := (W.setCell ⟨r, 0, none⟩ x).setCell ⟨r, 1, none⟩ y
    V.cell? ⟨g, 0, none⟩ = some x0 ∧ V.cell? ⟨g, 1, none⟩ = some x1 ∧ V.cell? ⟨g, 2, none⟩ = some x2 := by
  obtain ⟨h0, h1, h2⟩ := hs
  exact ⟨stQ2 h0 hg, stQ2 h1 hg, stQ2 h2 hg⟩
theorem keep3 {W W' : World} {g : Nat} {x0 x1 x2 : Value} (hs : W.cell? ⟨g, 0, none⟩ = some x0 ∧ W.cell? ⟨g, 1, none⟩ = some x1 ∧ W.cell? ⟨g, 2, none⟩ = some x2) (hb : Below W.heap.size W W') :
    W'.cell? ⟨g, 0, none⟩ = some x0 ∧ W'.cell? ⟨g, 1, none⟩ = some x1 ∧ W'.cell? ⟨g, 2, none⟩ = some x2 := ⟨keepC hb hs.1, keepC hb hs.2.1, keepC hb hs.2.2⟩

theorem wfloor_n {w : World} {Z1 Z2 : Zone} {x y : Int} {s t r : Bool} {l k m : List Nat} {A B : Option Addr} {c d : Nat} (h1 : Nm x s l) (h2 : Nm y t k) (hy : y ≠ 0) (h3 : Nm (rq x y true) r m) (hl : l.length ≤ 10000) (u1 : U64s w Z1 A c l) (u2 : U64s w Z2 B d k) :
    Calls Tryz.prog 11 #[.agg #[.bool s, .slice A l.length c], .agg #[.bool t, .slice B k.length d]] w fun e w' => ∃ Av cv, e = .returned (.tuple #[.agg #[.bool r, .slice Av m.length cv], .int .i64 0]) ∧ U64s w' (new w.heap.size) Av cv m ∧ Below w.heap.size w w' := by
  refine (wfloor_z (h1.isZ u1) (h2.isZ u2) hy (by rw [← h1.len]; exact hl)).mono ?_
  rintro e w' ⟨v, rfl, hv, hb⟩
  obtain ⟨Av, cv, rfl, hu⟩ := h3.of hv
  exact ⟨Av, cv, rfl, hu, hb⟩

set_option maxRecDepth 100000 in
set_option maxHeartbeats 2000000 in
theorem rfloor_q {w : World} {Z1 Z2 : Zone} {s r : Bool} {l k m : List Nat} {A B : Option Addr} {a b : Nat} {p : Rat} (hp : NmQ p s l k) (hz : Nm (rq p.num (p.den : Int) true) r m) (u1 : U64s w Z1 A a l) (u2 : U64s w Z2 B b k) (q1 : l.length ≤ 2000) (q2 : k.length ≤ 2000) :
    Calls Tryz.prog 34 #[.agg #[.bool s, .slice A l.length a, .slice B k.length b]] w fun e w' => ∃ Av cv, e = .returned (.tuple #[.agg #[.bool r, .slice Av m.length cv], .int .i64 0]) ∧ U64s w' (new w.heap.size) Av cv m ∧ Below w.heap.size w w' := by
  have hB := box_rat w (.bool s) (.slice A l.length a) (.slice B k.length b)
  have bA := (Box3.new w (.bool s) (.slice A l.length a) (.slice B k.length b) 48).alloc (.cells #[.bool false, .slice none 0 0] 36)
  have bR := Box.new (w.alloc (.cells #[.bool s, .slice A l.length a, .slice B k.length b] 48)) (.bool false) (.slice none 0 0) 36
  have hB0 := hB.alloc hB.size (.cells #[.bool false, .slice none 0 0] 36)
  have hck := ratcheck_any (s := s) (u1.below hB0) (u2.below hB0) (by omega) (by omega)
  have e0 : errF s l k = 0 := by unfold errF; rw [if_pos hp.ok]
  rw [e0] at hck
  have Dn := Lib.hid (fun (W : World) => rden_n (w := W) (s := s) (l := l) (k := k) (A := A) (B := B) (c := a) (d := b))
  have CF := Lib.hid (fun (W : World) (hW : Below w.heap.size w W) => wfloor_n hp.num hp.den (by have := p.den_nz; omega) hz (by omega) (u1.below hW) (u2.below hW))
  have hs0 : ((w.alloc (.cells #[.bool s, .slice A l.length a, .slice B k.length b] 48)).alloc (.cells #[.bool false, .slice none 0 0] 36)).cell? ⟨w.heap.size, 0, none⟩ = some (.bool s) ∧ ((w.alloc (.cells #[.bool s, .slice A l.length a, .slice B k.length b] 48)).alloc (.cells #[.bool false, .slice none 0 0] 36)).cell? ⟨w.heap.size, 1, none⟩ = some (.slice A l.length a) ∧ ((w.alloc (.cells #[.bool s, .slice A l.length a, .slice B k.length b] 48)).alloc (.cells #[.bool false, .slice none 0 0] 36)).cell? ⟨w.heap.size, 2, none⟩ = some (.slice B k.length b) := ⟨bA.c0, bA.c1, bA.c2⟩
  have HS := Lib.hid hs0
  have HCK := Lib.hid hck
  have HB0 := Lib.hid hB0
  rw [show (w.alloc (.cells #[.bool s, .slice A l.length a, .slice B k.length b] 48)).heap.size = w.heap.size + 1 by simp] at bR
  have BR := Lib.hid bR
  obtain ⟨a0, a1, a2, _, _, _, _⟩ := bA
  clear u1 u2 q1 q2 hp hz hB hB0 bR hck e0 hs0
  go_enter Tryz.func34, Tryz.ntmps34
  go_wp2_with fail
  refine HCK.out.mono ?_
  rintro e w1 ⟨rfl, hc1⟩
  have hs := keep3 (keep3 HS.out hc1) (Below.refl _ _).drew
  have Hc := Lib.hid ((from_ HB0.out hc1).drew)
  have HR := Lib.hid ((BR.out.below hc1).below (Below.refl _ _).drew)
  clear a0 a1 a2 HS HB0 BR HCK hc1
  go_wp2
  have N1 := Lib.hid (show w.heap.size + 1 ≠ w.heap.size by omega)
  go_region_held3 (fun w' => w'.cell? ⟨w.heap.size, 0, none⟩ = some (.bool s) ∧ w'.cell? ⟨w.heap.size, 1, none⟩ = some (.slice A l.length a) ∧ w'.cell? ⟨w.heap.size, 2, none⟩ = some (.slice B k.length b))
    (first
      | with_reducible exact hs
      | with_reducible exact stI N1.out hs)
    (first
      | (go_at_call 79; with_reducible refine (Dn.out _).mono ?_; rintro e w' ⟨rfl, hc⟩; replace hs := keep3 hs hc; replace HR := Lib.hid (HR.out.below hc); replace Hc := Lib.hid (from_ Hc.out hc))
      | (go_at_call 11; with_reducible refine (CF.out _ Hc.out).mono ?_; rintro e w' ⟨Av, cv, rfl, v3, hc⟩; replace hs := keep3 hs hc; have zl := HR.out.lt; replace HR := Lib.hid (HR.out.below hc); replace Hc := Lib.hid (from_ Hc.out hc); obtain ⟨qq0, qq1, ff0, ff1, _⟩ := id HR.out))
  all_goals
    have HP := Lib.hid (HR.out.put Hc.out (by omega) (.bool r) (.slice Av m.length cv))
    have hiv : IsU _ _ (.slice Av m.length cv) m := ⟨Av, cv, rfl, v3⟩
    have Hu := Lib.hid (HP.out.keep zl hiv)
    clear hiv v3
    go_wp2
    refine bodyPost_ret (res_int2 rfl _ (w.heap.size + 1) rfl HP.out.c0 HP.out.c1) rfl ?_
    obtain ⟨A', c', e', h'⟩ := Hu.out
    injection e' with e1 e2 e3
    subst e1 e3
    exact ⟨_, _, rfl, h', HP.out.bel⟩

theorem wceil_n {w : World} {Z1 Z2 : Zone} {x y : Int} {s t r : Bool} {l k m : List Nat} {A B : Option Addr} {c d : Nat} (h1 : Nm x s l) (h2 : Nm y t k) (hy : y ≠ 0) (h3 : Nm (rq x y false) r m) (hl : l.length ≤ 10000) (u1 : U64s w Z1 A c l) (u2 : U64s w Z2 B d k) :
    Calls Tryz.prog 13 #[.agg #[.bool s, .slice A l.length c], .agg #[.bool t, .slice B k.length d]] w fun e w' => ∃ Av cv, e = .returned (.tuple #[.agg #[.bool r, .slice Av m.length cv], .int .i64 0]) ∧ U64s w' (new w.heap.size) Av cv m ∧ Below w.heap.size w w' := by
  refine (wceil_z (h1.isZ u1) (h2.isZ u2) hy (by rw [← h1.len]; exact hl)).mono ?_
  rintro e w' ⟨v, rfl, hv, hb⟩
  obtain ⟨Av, cv, rfl, hu⟩ := h3.of hv
  exact ⟨Av, cv, rfl, hu, hb⟩

set_option maxRecDepth 100000 in
set_option maxHeartbeats 2000000 in
theorem rceil_q {w : World} {Z1 Z2 : Zone} {s r : Bool} {l k m : List Nat} {A B : Option Addr} {a b : Nat} {p : Rat} (hp : NmQ p s l k) (hz : Nm (rq p.num (p.den : Int) false) r m) (u1 : U64s w Z1 A a l) (u2 : U64s w Z2 B b k) (q1 : l.length ≤ 2000) (q2 : k.length ≤ 2000) :
    Calls Tryz.prog 36 #[.agg #[.bool s, .slice A l.length a, .slice B k.length b]] w fun e w' => ∃ Av cv, e = .returned (.tuple #[.agg #[.bool r, .slice Av m.length cv], .int .i64 0]) ∧ U64s w' (new w.heap.size) Av cv m ∧ Below w.heap.size w w' := by
  have hB := box_rat w (.bool s) (.slice A l.length a) (.slice B k.length b)
  have bA := (Box3.new w (.bool s) (.slice A l.length a) (.slice B k.length b) 48).alloc (.cells #[.bool false, .slice none 0 0] 36)
  have bR := Box.new (w.alloc (.cells #[.bool s, .slice A l.length a, .slice B k.length b] 48)) (.bool false) (.slice none 0 0) 36
  have hB0 := hB.alloc hB.size (.cells #[.bool false, .slice none 0 0] 36)
  have hck := ratcheck_any (s := s) (u1.below hB0) (u2.below hB0) (by omega) (by omega)
  have e0 : errF s l k = 0 := by unfold errF; rw [if_pos hp.ok]
  rw [e0] at hck
  have Dn := Lib.hid (fun (W : World) => rden_n (w := W) (s := s) (l := l) (k := k) (A := A) (B := B) (c := a) (d := b))
  have CF := Lib.hid (fun (W : World) (hW : Below w.heap.size w W) => wceil_n hp.num hp.den (by have := p.den_nz; omega) hz (by omega) (u1.below hW) (u2.below hW))
  have hs0 : ((w.alloc (.cells #[.bool s, .slice A l.length a, .slice B k.length b] 48)).alloc (.cells #[.bool false, .slice none 0 0] 36)).cell? ⟨w.heap.size, 0, none⟩ = some (.bool s) ∧ ((w.alloc (.cells #[.bool s, .slice A l.length a, .slice B k.length b] 48)).alloc (.cells #[.bool false, .slice none 0 0] 36)).cell? ⟨w.heap.size, 1, none⟩ = some (.slice A l.length a) ∧ ((w.alloc (.cells #[.bool s, .slice A l.length a, .slice B k.length b] 48)).alloc (.cells #[.bool false, .slice none 0 0] 36)).cell? ⟨w.heap.size, 2, none⟩ = some (.slice B k.length b) := ⟨bA.c0, bA.c1, bA.c2⟩
  have HS := Lib.hid hs0
  have HCK := Lib.hid hck
  have HB0 := Lib.hid hB0
  rw [show (w.alloc (.cells #[.bool s, .slice A l.length a, .slice B k.length b] 48)).heap.size = w.heap.size + 1 by simp] at bR
  have BR := Lib.hid bR
  obtain ⟨a0, a1, a2, _, _, _, _⟩ := bA
  clear u1 u2 q1 q2 hp hz hB hB0 bR hck e0 hs0
  go_enter Tryz.func36, Tryz.ntmps36
  go_wp2_with fail
  refine HCK.out.mono ?_
  rintro e w1 ⟨rfl, hc1⟩
  have hs := keep3 (keep3 HS.out hc1) (Below.refl _ _).drew
  have Hc := Lib.hid ((from_ HB0.out hc1).drew)
  have HR := Lib.hid ((BR.out.below hc1).below (Below.refl _ _).drew)
  clear a0 a1 a2 HS HB0 BR HCK hc1
  go_wp2
  have N1 := Lib.hid (show w.heap.size + 1 ≠ w.heap.size by omega)
  go_region_held3 (fun w' => w'.cell? ⟨w.heap.size, 0, none⟩ = some (.bool s) ∧ w'.cell? ⟨w.heap.size, 1, none⟩ = some (.slice A l.length a) ∧ w'.cell? ⟨w.heap.size, 2, none⟩ = some (.slice B k.length b))
    (first
      | with_reducible exact hs
      | with_reducible exact stI N1.out hs)
    (first
      | (go_at_call 79; with_reducible refine (Dn.out _).mono ?_; rintro e w' ⟨rfl, hc⟩; replace hs := keep3 hs hc; replace HR := Lib.hid (HR.out.below hc); replace Hc := Lib.hid (from_ Hc.out hc))
      | (go_at_call 13; with_reducible refine (CF.out _ Hc.out).mono ?_; rintro e w' ⟨Av, cv, rfl, v3, hc⟩; replace hs := keep3 hs hc; have zl := HR.out.lt; replace HR := Lib.hid (HR.out.below hc); replace Hc := Lib.hid (from_ Hc.out hc); obtain ⟨qq0, qq1, ff0, ff1, _⟩ := id HR.out))
  all_goals
    have HP := Lib.hid (HR.out.put Hc.out (by omega) (.bool r) (.slice Av m.length cv))
    have hiv : IsU _ _ (.slice Av m.length cv) m := ⟨Av, cv, rfl, v3⟩
    have Hu := Lib.hid (HP.out.keep zl hiv)
    clear hiv v3
    go_wp2
    refine bodyPost_ret (res_int2 rfl _ (w.heap.size + 1) rfl HP.out.c0 HP.out.c1) rfl ?_
    obtain ⟨A', c', e', h'⟩ := Hu.out
    injection e' with e1 e2 e3
    subst e1 e3
    exact ⟨_, _, rfl, h', HP.out.bel⟩

end Go.Proofs.YtceenaegchlbcaaGreatDoor

namespace Go.Proofs.YtceenaegchlbcaaGreatDoor
open Go.RowKit
set_option linter.unusedVariables false
set_option linter.unusedSimpArgs false

/-- The document's words for a quotient rounded down. -/
theorem down_case {x y : Int} (hy : y ≠ 0) :
    (decide (x < 0) = decide (y < 0) ∧ rq x y true = ((x.natAbs / y.natAbs : Nat) : Int)) ∨
    (decide (x < 0) ≠ decide (y < 0) ∧ x.natAbs % y.natAbs = 0 ∧ rq x y true = -((x.natAbs / y.natAbs : Nat) : Int)) ∨
    (decide (x < 0) ≠ decide (y < 0) ∧ x.natAbs % y.natAbs ≠ 0 ∧ rq x y true = -((x.natAbs / y.natAbs + 1 : Nat) : Int)) := by
  by_cases hs : decide (x < 0) = decide (y < 0)
  · left
    refine ⟨hs, ?_⟩
    unfold rq tq
    rw [hs]
    simp
  · right
    have hb : (decide (x < 0) != decide (y < 0)) = true := by simpa using hs
    by_cases h0 : x.natAbs % y.natAbs = 0
    · left
      refine ⟨hs, h0, ?_⟩
      have hz : decide (0 < (limbs (x.natAbs % y.natAbs)).length) = false := decide_eq_false (by rw [len_pos]; omega)
      unfold rq tq
      rw [hz, if_neg hs]
      simp
    · right
      refine ⟨hs, h0, ?_⟩
      have hz : decide (0 < (limbs (x.natAbs % y.natAbs)).length) = true := decide_eq_true (by rw [len_pos]; omega)
      unfold rq tq
      rw [hz, hb, if_neg hs]
      simp
      omega
theorem nm_nat (n : Nat) : Nm (n : Int) false (limbs n) := ⟨(decide_eq_false (by omega)).symm, by rw [Int.natAbs_natCast]⟩
theorem nm_minus (n : Nat) : Nm (-(n : Int)) (decide (0 < (limbs n).length)) (limbs n) := by
  refine ⟨?_, by rw [Int.natAbs_neg, Int.natAbs_natCast]⟩
  rw [decide_eq_decide, len_pos]
  omega

theorem Nm.isN {x : Int} {s : Bool} {l : List Nat} (h : Nm x s l) {w : World} {Z : Zone} {A : Option Addr} {c : Nat} (hu : U64s w Z A c l) : IsN w Z (.slice A l.length c) x.natAbs := by
  obtain ⟨rfl, rfl⟩ := h
  exact ⟨A, c, rfl, hu⟩
theorem Nm.uniq {x : Int} {s t : Bool} {l k : List Nat} (h : Nm x s l) (h' : Nm x t k) : s = t ∧ l = k := ⟨h.1.trans h'.1.symm, h.2.trans h'.2.symm⟩


set_option maxRecDepth 100000 in
set_option maxHeartbeats 4000000 in
theorem r5down_n {w : World} {Z1 Z2 : Zone} {x y z : Int} {s t r : Bool} {l k m : List Nat} {A B : Option Addr} {c d : Nat} (h1 : Nm x s l) (h2 : Nm y t k) (h3 : Nm z r m) (hz : rq x y true = z) (hy : y ≠ 0) (hl : l.length ≤ 9000) (hl2 : k.length ≤ 9000) (u1 : U64s w Z1 A c l) (u2 : U64s w Z2 B d k) :
    Calls Tryz.prog 65 #[.agg #[.bool s, .slice A l.length c], .agg #[.bool t, .slice B k.length d]] w fun e w' => ∃ Av cv, e = .returned (.agg #[.bool r, .slice Av m.length cv]) ∧ U64s w' (new w.heap.size) Av cv m ∧ Below w.heap.size w w' := by
  obtain ⟨bA, bB, bR, hB0⟩ := boxes3 w (.bool s) (.slice A l.length c) (.bool t) (.slice B k.length d) (.bool false) (.slice none 0 0) 36
  have na := h1.isN (u1.below hB0)
  have nb := h2.isN (u2.below hB0)
  have la := h1.len
  have lb := h2.len
  have hov := over_good na nb (by omega) (by omega) (by omega)
  have hq1 : (limbs (x.natAbs / y.natAbs)).length ≤ 9000 := Nat.le_trans (len_mono (Nat.div_le_self _ _)) (by omega)
  have hcase := down_case (x := x) hy
  rw [hz, ← h1.1, ← h2.1] at hcase
  have hways : (s = t ∧ r = false ∧ m = limbs (x.natAbs / y.natAbs)) ∨
      (((s = true ∧ t = false) ∨ (s = false ∧ t = true)) ∧ x.natAbs % y.natAbs = 0 ∧ r = decide (0 < (limbs (x.natAbs / y.natAbs)).length) ∧ m = limbs (x.natAbs / y.natAbs)) ∨
      (((s = true ∧ t = false) ∨ (s = false ∧ t = true)) ∧ x.natAbs % y.natAbs ≠ 0 ∧ r = true ∧ m = limbs (x.natAbs / y.natAbs + 1)) := by
    have hne : s ≠ t → (s = true ∧ t = false) ∨ (s = false ∧ t = true) := by cases s <;> cases t <;> simp
    rcases hcase with ⟨e, h⟩ | ⟨e, h0, h⟩ | ⟨e, h0, h⟩
    · rw [h] at h3
      obtain ⟨g1, g2⟩ := h3.uniq (nm_nat _)
      exact .inl ⟨e, g1, g2⟩
    · rw [h] at h3
      obtain ⟨g1, g2⟩ := h3.uniq (nm_minus _)
      exact .inr (.inl ⟨hne e, h0, g1, g2⟩)
    · rw [h] at h3
      obtain ⟨g1, g2⟩ := h3.uniq (nm_minus _)
      rw [decide_eq_true (len_pos.2 (Nat.succ_ne_zero (x.natAbs / y.natAbs)))] at g1
      exact .inr (.inr ⟨hne e, h0, g1, g2⟩)
  obtain ⟨a0, a1, _, _, _⟩ := bA
  obtain ⟨b0, b1, _, _, _⟩ := bB
  have Hov := Lib.hid hov
  have HB0 := Lib.hid hB0
  clear hov hcase h1 h2 h3 hz hy hl hl2 u1 u2 na nb la lb
  generalize l.length = L at *
  generalize k.length = K at *
  generalize x.natAbs / y.natAbs = q at *
  generalize x.natAbs % y.natAbs = ρ at *
  rcases hways with ⟨rfl, rfl, rfl⟩ | ⟨hst, rfl, hr, rfl⟩ | ⟨hst, hr0, rfl, rfl⟩
  · go_enter Tryz.func65, Tryz.ntmps65
    go_wp2_with fail
    refine Hov.out.mono ?_
    rintro e w1 ⟨_, v2, rfl, ⟨Av, cv, rfl, hv⟩, ⟨Ar, cr, rfl, _⟩, hc1⟩
    replace a0 := keepC hc1 a0
    replace b0 := keepC hc1 b0
    have bR1 := bR.below hc1
    have hP := bR1.put (from_ HB0.out hc1) (by omega) (.bool false) (.slice Av (limbs q).length cv)
    have hu2 := hP.keep (by simp) (⟨Av, cv, rfl, hv⟩ : IsU w1 _ (.slice Av (limbs q).length cv) (limbs q))
    have Hu := Lib.hid hu2
    have HP := Lib.hid hP
    obtain ⟨q0, q1, f0, f1, _⟩ := bR1
    clear hv hu2 hP bR HB0 a1 b1
    go_wp2
    refine bodyPost_ret (res_int rfl _ (w.heap.size + 2) rfl HP.out.c0 HP.out.c1) rfl ?_
    obtain ⟨A', c', e', hu⟩ := Hu.out
    injection e' with e1 _ e3
    subst e1 e3
    exact ⟨_, _, rfl, hu, HP.out.bel⟩
  · have e0 : limbs 0 = [] := limbs_eq_nil.2 rfl
    obtain ⟨D, hD⟩ : ∃ D, D = decide (0 < (limbs q).length) := ⟨_, rfl⟩
    have hdi : decide ((0 : Int) < ((limbs q).length : Int)) = D := by rw [hD]; exact decide_eq_decide.2 (by omega)
    have hdi2 : decide (0 < (limbs q).length) = D := hD.symm
    rw [← hD] at hr
    subst hr
    clear hD
    cases r
    all_goals
     rcases hst with ⟨rfl, rfl⟩ | ⟨rfl, rfl⟩
     all_goals
      go_enter Tryz.func65, Tryz.ntmps65
      go_wp2_with fail
      refine Hov.out.mono ?_
      rintro e w1 ⟨_, v2, rfl, ⟨Av, cv, rfl, hv⟩, ⟨Ar, cr, rfl, _⟩, hc1⟩
      rw [e0]
      replace a0 := keepC hc1 a0
      replace b0 := keepC hc1 b0
      have bR1 := bR.below hc1
      have hP := fun sz => bR1.put (from_ HB0.out hc1) (by omega) (.bool sz) (.slice Av (limbs q).length cv)
      have hu2 := fun sz => (hP sz).keep (by simp) (⟨Av, cv, rfl, hv⟩ : IsU w1 _ (.slice Av (limbs q).length cv) (limbs q))
      have Hu := Lib.hid hu2
      have HP := Lib.hid hP
      obtain ⟨q0, q1, f0, f1, _⟩ := bR1
      clear hv hu2 hP bR HB0 a1 b1
      go_wp2
      refine bodyPost_ret (res_int rfl _ (w.heap.size + 2) rfl (HP.out _).c0 (HP.out _).c1) rfl ?_
      obtain ⟨A', c', e', hu⟩ := Hu.out _
      injection e' with e1 _ e3
      subst e1 e3
      exact ⟨_, _, rfl, hu, (HP.out _).bel⟩
  · have hpos := len_pos.2 hr0
    have hdr : decide ((0 : Int) < ((limbs ρ).length : Int)) = true := decide_eq_true (by omega)
    have hpq := len_pos.2 (show q + 1 ≠ 0 by omega)
    have hdq : decide ((0 : Int) < ((limbs (q + 1)).length : Int)) = true := decide_eq_true (by omega)
    have HQ1 := Lib.hid hq1
    clear hq1 hr0
    rcases hst with ⟨rfl, rfl⟩ | ⟨rfl, rfl⟩
    all_goals
      go_enter Tryz.func65, Tryz.ntmps65
      go_wp2_with fail
      refine Hov.out.mono ?_
      rintro e w1 ⟨_, v2, rfl, hq, ⟨Ar, cr, rfl, _⟩, hc1⟩
      replace a0 := keepC hc1 a0
      replace b0 := keepC hc1 b0
      have bR1 := bR.below hc1
      have hB1 := from_ HB0.out hc1
      have hal : Below w1.heap.size w1 (w1.alloc (.cells #[.int .u64 1] 68)) := (Below.refl _ w1).alloc (Nat.le_refl _) _
      have h1 : IsN (w1.alloc (.cells #[.int .u64 1] 68)) old (.slice (some ⟨w1.heap.size, 0, none⟩) 1 1) 1 := isN_one (by omega) (by omega) (cell_newest rfl rfl)
      have hsm := Lib.hid (sum1_good (hq.below hal) h1 (by have := HQ1.out; omega) (by decide +kernel))
      have Hal := Lib.hid hal
      have hsz := bR1.lt
      obtain ⟨Av, cv, rfl, hq⟩ := hq
      clear h1 hal hq bR
      go_wp2_with fail
      refine hsm.out.mono ?_
      rintro e w2 ⟨_, rfl, ⟨Av, cv, rfl, hv⟩, hc2⟩
      have hs2 := step Hal.out hc2
      have bR2 := bR1.below hs2
      have hP := bR2.put (from_ hB1 hs2) (by omega) (.bool true) (.slice Av (limbs (q + 1)).length cv)
      have hu2 := hP.keep (by simp; omega) (⟨Av, cv, rfl, hv⟩ : IsU w2 _ (.slice Av (limbs (q + 1)).length cv) (limbs (q + 1)))
      have Hu := Lib.hid hu2
      have HP := Lib.hid hP
      obtain ⟨q0, q1, f0, f1, _⟩ := bR2
      clear hv hu2 hP HB0 a1 b1 bR1 hB1 hs2 hc2 Hal hc1
      go_wp2
      refine bodyPost_ret (res_int rfl _ (w.heap.size + 2) rfl HP.out.c0 HP.out.c1) rfl ?_
      obtain ⟨A', c', e', hu⟩ := Hu.out
      injection e' with e1 _ e3
      subst e1 e3
      exact ⟨_, _, rfl, hu, HP.out.bel⟩



theorem two_err {s t : Bool} {l k : List Nat} (h : ¬ (okI s l = true ∧ okI t k = true)) : errO s l t k = 8 := by unfold errO; rw [if_neg h]
theorem two_ok {s t : Bool} {l k : List Nat} (h : okI s l = true ∧ okI t k = true) : errO s l t k = 0 := by unfold errO; rw [if_pos h]
theorem nm_len {x : Int} {s : Bool} {l : List Nat} (h : Nm x s l) (n : Nat) (hl : l.length ≤ n) : (limbs x.natAbs).length ≤ n := by rw [← h.len]; exact hl

theorem r5turned_v {w : World} {Z1 : Zone} {x z : Int} {s r : Bool} {l m : List Nat} {A : Option Addr} {c : Nat} (h1 : Nm x s l) (h3 : Nm z r m) (hz : -x = z) (hl : l.length ≤ 10000) (u1 : U64s w Z1 A c l) :
    Calls Tryz.prog 66 #[.agg #[.bool s, .slice A l.length c]] w fun e w' => ∃ Av cv, e = .returned (.agg #[.bool r, .slice Av m.length cv]) ∧ U64s w' (new w.heap.size) Av cv m ∧ Below w.heap.size w w' := by
  subst hz
  refine (r5turned_good (h1.isZ u1) (nm_len h1 _ hl)).mono ?_
  rintro e w' ⟨Bv, dv, rfl, hv, hb⟩
  obtain ⟨Av, cv, e2, hu⟩ := h3.of hv
  rw [e2]
  exact ⟨Av, cv, rfl, hu, hb⟩
theorem r5times_v {w : World} {Z1 Z2 : Zone} {x y z : Int} {s t r : Bool} {l k m : List Nat} {A B : Option Addr} {c d : Nat} (h1 : Nm x s l) (h2 : Nm y t k) (h3 : Nm z r m) (hz : x * y = z) (hl : l.length ≤ 90000) (hl2 : k.length ≤ 90000) (u1 : U64s w Z1 A c l) (u2 : U64s w Z2 B d k) :
    Calls Tryz.prog 69 #[.agg #[.bool s, .slice A l.length c], .agg #[.bool t, .slice B k.length d]] w fun e w' => ∃ Av cv, e = .returned (.agg #[.bool r, .slice Av m.length cv]) ∧ U64s w' (new w.heap.size) Av cv m ∧ Below w.heap.size w w' := by
  have o1 : okI s l = true := by obtain ⟨rfl, rfl⟩ := h1; exact IsZ.ok x
  have o2 : okI t k = true := by obtain ⟨rfl, rfl⟩ := h2; exact IsZ.ok y
  have e1 : zof s l = x := by
    have n1 := Nm.ok o1 u1.small
    have h4 : decide (zof s l < 0) = decide (x < 0) := n1.1.symm.trans h1.1
    have h5 : (zof s l).natAbs = x.natAbs := limbs_inj (n1.2.symm.trans h1.2)
    have h6 := decide_eq_decide.1 h4
    omega
  have e2 : zof t k = y := by
    have n1 := Nm.ok o2 u2.small
    have h4 : decide (zof t k < 0) = decide (y < 0) := n1.1.symm.trans h2.1
    have h5 : (zof t k).natAbs = y.natAbs := limbs_inj (n1.2.symm.trans h2.2)
    have h6 := decide_eq_decide.1 h4
    omega
  refine (r5times_good ⟨_, rfl, A, c, rfl, u1⟩ ⟨_, rfl, B, d, rfl, u2⟩ o1 o2 hl hl2).mono ?_
  rintro e w' ⟨v, rfl, hv, hb⟩
  rw [e1, e2, hz] at hv
  obtain ⟨Av, cv, rfl, hu⟩ := h3.of hv
  exact ⟨Av, cv, rfl, hu, hb⟩
theorem r5compared_w {w : World} {Z1 Z2 : Zone} {x y g : Int} {s t : Bool} {l k : List Nat} {A B : Option Addr} {c d : Nat} (h1 : Nm x s l) (h2 : Nm y t k) (hg : sgn (x - y) = g) (hl : l.length ≤ 9000) (hl2 : k.length ≤ 9000) (u1 : U64s w Z1 A c l) (u2 : U64s w Z2 B d k) :
    Calls Tryz.prog 68 #[.agg #[.bool s, .slice A l.length c], .agg #[.bool t, .slice B k.length d]] w fun e w' => e = .returned (.int .i64 g) ∧ Below w.heap.size w w' := by
  subst hg
  exact r5compared_good (h1.isZ u1) (h2.isZ u2) (nm_len h1 _ hl) (nm_len h2 _ hl2)

set_option maxRecDepth 100000 in
set_option maxHeartbeats 4000000 in
theorem r5floor_any {w : World} {Z1 Z2 : Zone} {s t : Bool} {l k : List Nat} {A B : Option Addr} {c d : Nat} (u1 : U64s w Z1 A c l) (u2 : U64s w Z2 B d k) (hl : l.length ≤ 4000) (hl2 : k.length ≤ 4000) :
    Calls Tryz.prog 12 #[.agg #[.bool s, .slice A l.length c], .agg #[.bool t, .slice B k.length d]] w fun e w' => ∃ Av cv, e = .returned (.tuple #[.agg #[.bool (flS true s l t k), .slice Av (flL true s l t k).length cv], .int .i64 (flE s l t k)]) ∧ U64s w' (new w.heap.size) Av cv (flL true s l t k) ∧ Below w.heap.size w w' := by
  obtain ⟨bA, bB, bR, hB0⟩ := boxes3 w (.bool s) (.slice A l.length c) (.bool t) (.slice B k.length d) (.bool false) (.slice none 0 0) 36
  have ia : IsI w Z1 (.agg #[.bool s, .slice A l.length c]) s l := ⟨_, rfl, A, c, rfl, u1⟩
  have ib : IsI w Z2 (.agg #[.bool t, .slice B k.length d]) t k := ⟨_, rfl, B, d, rfl, u2⟩
  have htwo := r5two_all (ia.below hB0) (ib.below hB0)
  obtain ⟨a0, a1, _, _, _⟩ := bA
  obtain ⟨b0, b1, _, _, _⟩ := bB
  have eS : flS true s l t k = if flE s l t k = 0 then decide (rq (zof s l) (zof t k) true < 0) else false := rfl
  have eL : flL true s l t k = if flE s l t k = 0 then limbs (rq (zof s l) (zof t k) true).natAbs else [] := rfl
  rcases fl_case (s := s) (t := t) u1.small u2.small with ⟨h, e⟩ | ⟨h, rfl, rfl, e⟩ | ⟨e, hy, n1, n2⟩
  · rw [e, if_neg (by omega)] at eS eL
    rw [e, eS, eL]
    rw [two_err h] at htwo
    have Ht := Lib.hid htwo
    clear htwo h e eS eL ia ib u1 u2 hl hl2
    generalize l.length = L at *
    generalize k.length = K at *
    go_enter Tryz.func12, Tryz.ntmps12
    go_wp2_with fail
    refine Ht.out.mono ?_
    rintro e w1 ⟨rfl, hc1⟩
    have bR1 := bR.below hc1
    have hP := bR1.put (from_ hB0 hc1) (by omega) (.bool false) (.slice none 0 0)
    have HP := Lib.hid hP
    obtain ⟨q0, q1, f0, f1, _⟩ := bR1
    clear hP bR hB0
    go_wp2
    refine bodyPost_ret (res_int2 rfl _ (w.heap.size + 2) rfl HP.out.c0 HP.out.c1) rfl ?_
    exact ⟨none, 0, rfl, U64s.nil _ _, HP.out.bel⟩
  · rw [e, if_neg (by omega)] at eS eL
    rw [e, eS, eL]
    rw [two_ok ⟨h, rfl⟩] at htwo
    have Ht := Lib.hid htwo
    clear htwo h e eS eL ia ib u1 u2 hl hl2
    generalize l.length = L at *
    go_enter Tryz.func12, Tryz.ntmps12
    go_wp2_with fail
    refine Ht.out.mono ?_
    rintro e w1 ⟨rfl, hc1⟩
    replace b1 := keepC hc1 b1
    have bR1 := bR.below hc1
    have hP := bR1.put (from_ hB0 hc1) (by omega) (.bool false) (.slice none 0 0)
    have HP := Lib.hid hP
    obtain ⟨q0, q1, f0, f1, _⟩ := bR1
    clear hP bR hB0
    go_wp2
    refine bodyPost_ret (res_int2 rfl _ (w.heap.size + 2) rfl HP.out.c0 HP.out.c1) rfl ?_
    exact ⟨none, 0, rfl, U64s.nil _ _, HP.out.bel⟩
  · have hok : okI s l = true ∧ okI t k = true := by
      unfold flE at e
      split at e
      · assumption
      · omega
    rw [e, if_pos rfl] at eS eL
    rw [e, eS, eL]
    rw [two_ok hok] at htwo
    have hk : 0 < k.length := by rw [n2.2]; exact len_pos.2 (by omega)
    have hk2 : ((k.length : Int) == 0) = false := beq_eq_false_iff_ne.2 (by omega)
    have hk3 : decide (k.length = 0) = false := decide_eq_false (by omega)
    have hD := fun (W : World) (h : Below w.heap.size w W) => r5down_n n1 n2 (Nm.mk' (rq (zof s l) (zof t k) true)) rfl hy (by omega) (by omega) (u1.below h) (u2.below h)
    generalize decide (rq (zof s l) (zof t k) true < 0) = r at *
    generalize limbs (rq (zof s l) (zof t k) true).natAbs = m at *
    have Ht := Lib.hid htwo
    have HD := Lib.hid hD
    clear htwo hD hok e eS eL ia ib u1 u2 hl hl2 n1 n2 hy hk
    generalize l.length = L at *
    generalize k.length = K at *
    go_enter Tryz.func12, Tryz.ntmps12
    go_wp2_with fail
    refine Ht.out.mono ?_
    rintro e w1 ⟨rfl, hc1⟩
    replace a0 := keepC hc1 a0
    replace a1 := keepC hc1 a1
    replace b0 := keepC hc1 b0
    replace b1 := keepC hc1 b1
    have bR1 := bR.below hc1
    have hB1 := from_ hB0 hc1
    clear bR hB0 hc1 Ht
    go_wp2_with fail
    refine (HD.out _ hB1).mono ?_
    rintro e w2 ⟨Av, cv, rfl, hv, hc2⟩
    have bR2 := bR1.below hc2
    have hP := bR2.put (from_ hB1 hc2) (by omega) (.bool r) (.slice Av m.length cv)
    have hlt := bR1.lt
    have hu2 := hP.keep (by omega) (⟨Av, cv, rfl, hv⟩ : IsU w2 _ (.slice Av m.length cv) m)
    have Hu := Lib.hid hu2
    have HP := Lib.hid hP
    obtain ⟨q0, q1, f0, f1, _⟩ := bR2
    clear hv hu2 hP bR1 hB1 hlt hc2 HD
    go_wp2
    refine bodyPost_ret (res_int2 rfl _ (w.heap.size + 2) rfl HP.out.c0 HP.out.c1) rfl ?_
    obtain ⟨A', c', e', hu⟩ := Hu.out
    injection e' with e1 _ e3
    subst e1 e3
    exact ⟨_, _, rfl, hu, HP.out.bel⟩

set_option maxRecDepth 100000 in
set_option maxHeartbeats 4000000 in
theorem r5ceil_any {w : World} {Z1 Z2 : Zone} {s t : Bool} {l k : List Nat} {A B : Option Addr} {c d : Nat} (u1 : U64s w Z1 A c l) (u2 : U64s w Z2 B d k) (hl : l.length ≤ 4000) (hl2 : k.length ≤ 4000) :
    Calls Tryz.prog 14 #[.agg #[.bool s, .slice A l.length c], .agg #[.bool t, .slice B k.length d]] w fun e w' => ∃ Av cv, e = .returned (.tuple #[.agg #[.bool (flS false s l t k), .slice Av (flL false s l t k).length cv], .int .i64 (flE s l t k)]) ∧ U64s w' (new w.heap.size) Av cv (flL false s l t k) ∧ Below w.heap.size w w' := by
  obtain ⟨bA, bB, bR, hB0⟩ := boxes3 w (.bool s) (.slice A l.length c) (.bool t) (.slice B k.length d) (.bool false) (.slice none 0 0) 36
  have ia : IsI w Z1 (.agg #[.bool s, .slice A l.length c]) s l := ⟨_, rfl, A, c, rfl, u1⟩
  have ib : IsI w Z2 (.agg #[.bool t, .slice B k.length d]) t k := ⟨_, rfl, B, d, rfl, u2⟩
  have htwo := r5two_all (ia.below hB0) (ib.below hB0)
  obtain ⟨a0, a1, _, _, _⟩ := bA
  obtain ⟨b0, b1, _, _, _⟩ := bB
  have eS : flS false s l t k = if flE s l t k = 0 then decide (rq (zof s l) (zof t k) false < 0) else false := rfl
  have eL : flL false s l t k = if flE s l t k = 0 then limbs (rq (zof s l) (zof t k) false).natAbs else [] := rfl
  rcases fl_case (s := s) (t := t) u1.small u2.small with ⟨h, e⟩ | ⟨h, rfl, rfl, e⟩ | ⟨e, hy, n1, n2⟩
  · rw [e, if_neg (by omega)] at eS eL
    rw [e, eS, eL]
    rw [two_err h] at htwo
    have Ht := Lib.hid htwo
    clear htwo h e eS eL ia ib u1 u2 hl hl2
    generalize l.length = L at *
    generalize k.length = K at *
    go_enter Tryz.func14, Tryz.ntmps14
    go_wp2_with fail
    refine Ht.out.mono ?_
    rintro e w1 ⟨rfl, hc1⟩
    have bR1 := bR.below hc1
    have hP := bR1.put (from_ hB0 hc1) (by omega) (.bool false) (.slice none 0 0)
    have HP := Lib.hid hP
    obtain ⟨q0, q1, f0, f1, _⟩ := bR1
    clear hP bR hB0
    go_wp2
    refine bodyPost_ret (res_int2 rfl _ (w.heap.size + 2) rfl HP.out.c0 HP.out.c1) rfl ?_
    exact ⟨none, 0, rfl, U64s.nil _ _, HP.out.bel⟩
  · rw [e, if_neg (by omega)] at eS eL
    rw [e, eS, eL]
    rw [two_ok ⟨h, rfl⟩] at htwo
    have Ht := Lib.hid htwo
    clear htwo h e eS eL ia ib u1 u2 hl hl2
    generalize l.length = L at *
    go_enter Tryz.func14, Tryz.ntmps14
    go_wp2_with fail
    refine Ht.out.mono ?_
    rintro e w1 ⟨rfl, hc1⟩
    replace b1 := keepC hc1 b1
    have bR1 := bR.below hc1
    have hP := bR1.put (from_ hB0 hc1) (by omega) (.bool false) (.slice none 0 0)
    have HP := Lib.hid hP
    obtain ⟨q0, q1, f0, f1, _⟩ := bR1
    clear hP bR hB0
    go_wp2
    refine bodyPost_ret (res_int2 rfl _ (w.heap.size + 2) rfl HP.out.c0 HP.out.c1) rfl ?_
    exact ⟨none, 0, rfl, U64s.nil _ _, HP.out.bel⟩
  · have hok : okI s l = true ∧ okI t k = true := by
      unfold flE at e
      split at e
      · assumption
      · omega
    rw [e, if_pos rfl] at eS eL
    rw [e, eS, eL]
    rw [two_ok hok] at htwo
    have hk : 0 < k.length := by rw [n2.2]; exact len_pos.2 (by omega)
    have hk2 : ((k.length : Int) == 0) = false := beq_eq_false_iff_ne.2 (by omega)
    have hk3 : decide (k.length = 0) = false := decide_eq_false (by omega)
    have hneg : -(rq (-(zof s l)) (zof t k) true) = rq (zof s l) (zof t k) false := by
      rcases rounds_plain (x := zof s l) hy with ⟨_, _, h1, h2, _⟩ | ⟨_, _, h1, h2, _⟩
      · rw [h1, h2]
      · rw [h1, h2]
    obtain ⟨sn, ln, nn⟩ : ∃ s' l', Nm (-(zof s l)) s' l' := ⟨_, _, Nm.mk' _⟩
    obtain ⟨sq, lq, nq⟩ : ∃ s' l', Nm (rq (-(zof s l)) (zof t k) true) s' l' := ⟨_, _, Nm.mk' _⟩
    have hln : ln.length ≤ 9000 := by rw [nn.len, Int.natAbs_neg, ← n1.len]; omega
    have hlq : lq.length ≤ 10000 := by
      rw [nq.len]
      have := len_rq (-(zof s l)) (zof t k) true
      rw [Int.natAbs_neg, ← n1.len] at this
      omega
    have hT1 := fun (W : World) (h : Below w.heap.size w W) => r5turned_v n1 nn rfl (by omega) (u1.below h)
    have hD := fun (W : World) (Z : Zone) (An : Option Addr) (cn : Nat) (h : Below w.heap.size w W) (hu : U64s W Z An cn ln) => r5down_n nn n2 nq rfl hy hln (by omega) hu (u2.below h)
    have hT2 := fun (W : World) (Z : Zone) (Aq : Option Addr) (cq : Nat) (hu : U64s W Z Aq cq lq) => r5turned_v nq (Nm.mk' (rq (zof s l) (zof t k) false)) hneg hlq hu
    generalize decide (rq (zof s l) (zof t k) false < 0) = r at *
    generalize limbs (rq (zof s l) (zof t k) false).natAbs = m at *
    have Ht := Lib.hid htwo
    have HD := Lib.hid hD
    have HT1 := Lib.hid hT1
    have HT2 := Lib.hid hT2
    clear htwo hD hT1 hT2 hok e eS eL ia ib u1 u2 hl hl2 n1 n2 nn nq hy hk hneg hln hlq
    generalize l.length = L at *
    generalize k.length = K at *
    go_enter Tryz.func14, Tryz.ntmps14
    go_wp2_with fail
    refine Ht.out.mono ?_
    rintro e w1 ⟨rfl, hc1⟩
    replace b1 := keepC hc1 b1
    have hs := And.intro (keepC (Below.refl _ w1).drew (keepC hc1 a0)) (And.intro (keepC (Below.refl _ w1).drew (keepC hc1 a1)) (And.intro (keepC (Below.refl _ w1).drew (keepC hc1 b0)) (keepC (Below.refl _ w1).drew b1)))
    have bR1 := Lib.hid ((bR.below hc1).below (W' := w1.drew) ((Below.refl _ _).drew))
    have HB1 := Lib.hid ((from_ hB0 hc1).drew)
    have Hlt := Lib.hid bR1.out.lt
    clear bR hB0 hc1 Ht a0 a1 b0
    go_wp2
    go_region_held3 (fun w' => w'.cell? ⟨w.heap.size, 0, none⟩ = some (.bool s) ∧ w'.cell? ⟨w.heap.size, 1, none⟩ = some (.slice A L c) ∧ w'.cell? ⟨w.heap.size + 1, 0, none⟩ = some (.bool t) ∧ w'.cell? ⟨w.heap.size + 1, 1, none⟩ = some (.slice B K d))
      (first
        | with_reducible exact hs
        | exact ⟨st hs.1 (by omega), st hs.2.1 (by omega), st hs.2.2.1 (by omega), st hs.2.2.2 (by omega)⟩)
      (first
        | (go_at_call 66; with_reducible refine (HT1.out _ HB1.out).mono ?_; rintro e w2 ⟨An, cn, rfl, un, hc⟩; replace hs := And.intro (keepC hc hs.1) (And.intro (keepC hc hs.2.1) (And.intro (keepC hc hs.2.2.1) (keepC hc hs.2.2.2))); have HB2 := Lib.hid (from_ HB1.out hc); have bR2 := Lib.hid (bR1.out.below hc))
        | (go_at_call 65; with_reducible refine (HD.out _ _ _ _ HB2.out un).mono ?_; rintro e w3 ⟨Aq, cq, rfl, uq, hc⟩; replace hs := And.intro (keepC hc hs.1) (And.intro (keepC hc hs.2.1) (And.intro (keepC hc hs.2.2.1) (keepC hc hs.2.2.2))); have HB3 := Lib.hid (from_ HB2.out hc); have bR3 := Lib.hid (bR2.out.below hc))
        | (go_at_call 66; with_reducible refine (HT2.out _ _ _ _ uq).mono ?_; rintro e w4 ⟨Av, cv, rfl, uv, hc⟩; replace hs := And.intro (keepC hc hs.1) (And.intro (keepC hc hs.2.1) (And.intro (keepC hc hs.2.2.1) (keepC hc hs.2.2.2))); have HB4 := Lib.hid (from_ HB3.out hc); have Hl3 := Lib.hid bR3.out.lt; have bR4 := Lib.hid (bR3.out.below hc); obtain ⟨q0, q1, f0, f1, _⟩ := id bR4.out))
    all_goals
      have hP := bR4.out.put HB4.out (by omega) (.bool r) (.slice Av m.length cv)
      have hu2 := hP.keep (by have := Hl3.out; omega) (⟨Av, cv, rfl, uv⟩ : IsU w4 _ (.slice Av m.length cv) m)
      have Hu := Lib.hid hu2
      have HP := Lib.hid hP
      clear uv hu2 hP
      go_wp2
      refine bodyPost_ret (res_int2 rfl _ (w.heap.size + 2) rfl HP.out.c0 HP.out.c1) rfl ?_
      obtain ⟨A', c', e', hu⟩ := Hu.out
      injection e' with e1 _ e3
      subst e1 e3
      exact ⟨_, _, rfl, hu, HP.out.bel⟩

set_option maxRecDepth 100000 in
set_option maxHeartbeats 4000000 in
theorem r5exact_any {w : World} {Z1 Z2 : Zone} {s t : Bool} {l k : List Nat} {A B : Option Addr} {c d : Nat} (u1 : U64s w Z1 A c l) (u2 : U64s w Z2 B d k) (hl : l.length ≤ 4000) (hl2 : k.length ≤ 4000) :
    Calls Tryz.prog 16 #[.agg #[.bool s, .slice A l.length c], .agg #[.bool t, .slice B k.length d]] w fun e w' => ∃ Av cv, e = .returned (.tuple #[.agg #[.bool (wxS s l t k), .slice Av (wxL s l t k).length cv], .int .i64 (wxE s l t k)]) ∧ U64s w' (new w.heap.size) Av cv (wxL s l t k) ∧ Below w.heap.size w w' := by
  obtain ⟨bA, bB, bR, hB0⟩ := boxes3 w (.bool s) (.slice A l.length c) (.bool t) (.slice B k.length d) (.bool false) (.slice none 0 0) 36
  have ia : IsI w Z1 (.agg #[.bool s, .slice A l.length c]) s l := ⟨_, rfl, A, c, rfl, u1⟩
  have ib : IsI w Z2 (.agg #[.bool t, .slice B k.length d]) t k := ⟨_, rfl, B, d, rfl, u2⟩
  obtain ⟨a0, a1, _, _, _⟩ := bA
  obtain ⟨b0, b1, _, _, _⟩ := bB
  have eS : wxS s l t k = if wxE s l t k = 0 then decide (rq (zof s l) (zof t k) true < 0) else false := rfl
  have eL : wxL s l t k = if wxE s l t k = 0 then limbs (rq (zof s l) (zof t k) true).natAbs else [] := rfl
  have eE : wxE s l t k = if flE s l t k = 0 then (if (zof s l).natAbs % (zof t k).natAbs = 0 then 0 else 6) else flE s l t k := rfl
  have hF := fun (W : World) (h : Below w.heap.size w W) => r5floor_any (s := s) (t := t) (u1.below h) (u2.below h) hl hl2
  have hbad : flE s l t k ≠ 0 → wxE s l t k = flE s l t k ∧ flS true s l t k = false ∧ flL true s l t k = [] := fun h => ⟨by rw [eE, if_neg h], if_neg h, if_neg h⟩
  by_cases e : flE s l t k = 0
  · rcases fl_case (s := s) (t := t) u1.small u2.small with ⟨h, e8⟩ | ⟨h, rfl, rfl, e30⟩ | ⟨_, hy, n1, n2⟩
    · omega
    · omega
    rw [e, if_pos rfl] at eE
    have fS : flS true s l t k = decide (rq (zof s l) (zof t k) true < 0) := if_pos e
    have fL : flL true s l t k = limbs (rq (zof s l) (zof t k) true).natAbs := if_pos e
    rw [e, fS, fL] at hF
    have nq := Nm.mk' (rq (zof s l) (zof t k) true)
    have hlq : (limbs (rq (zof s l) (zof t k) true).natAbs).length ≤ 4001 := by
      have := len_rq (zof s l) (zof t k) true
      rw [← n1.len] at this
      omega
    obtain ⟨sp, lp, np⟩ : ∃ s' l', Nm (rq (zof s l) (zof t k) true * zof t k) s' l' := ⟨_, _, Nm.mk' _⟩
    have hlp : lp.length ≤ 9000 := by
      rw [np.len]
      have := lz_mul (rq (zof s l) (zof t k) true) (zof t k)
      rw [← n2.len] at this
      omega
    have hTm := fun (W : World) (Z : Zone) (Aq : Option Addr) (cq : Nat) (h : Below w.heap.size w W) (hu : U64s W Z Aq cq (limbs (rq (zof s l) (zof t k) true).natAbs)) => r5times_v nq n2 np rfl (by omega) (by omega) hu (u2.below h)
    have hC := fun (W : World) (Z : Zone) (Ap : Option Addr) (cp : Nat) (h : Below w.heap.size w W) (hu : U64s W Z Ap cp lp) => r5compared_w np n1 rfl hlp (by omega) hu (u1.below h)
    obtain ⟨g, hg⟩ : ∃ g, g = sgn (rq (zof s l) (zof t k) true * zof t k - zof s l) := ⟨_, rfl⟩
    rw [← hg] at hC
    have hgg : ((zof s l).natAbs % (zof t k).natAbs = 0 ∧ g = 0) ∨ ((zof s l).natAbs % (zof t k).natAbs ≠ 0 ∧ (g != 0) = true) := by
      rcases rounds_plain (x := zof s l) hy with ⟨h0, h1, _⟩ | ⟨h0, h1, _⟩
      · left
        refine ⟨h0, ?_⟩
        rw [hg, show rq (zof s l) (zof t k) true * zof t k - zof s l = 0 by omega]
        rfl
      · right
        refine ⟨h0, ?_⟩
        have h2 : zof s l - rq (zof s l) (zof t k) true * zof t k ≠ 0 := fun h3 => by
          rw [h3] at h1
          unfold sgn at h1
          rw [if_pos rfl, if_neg hy] at h1
          split at h1 <;> omega
        have h4 : g ≠ 0 := by
          rw [hg]
          unfold sgn
          rw [if_neg (by omega)]
          split <;> omega
        simpa using h4
    have hsm : Hid (∀ (W : World) (Aq : Option Addr) (cq : Nat), U64s W (new w.heap.size) Aq cq (limbs (rq (zof s l) (zof t k) true).natAbs) → True) := fun _ _ _ _ => trivial
    generalize decide (rq (zof s l) (zof t k) true < 0) = r at *
    generalize limbs (rq (zof s l) (zof t k) true).natAbs = m at *
    have HF := Lib.hid hF
    have HTm := Lib.hid hTm
    have HC := Lib.hid hC
    clear hF hTm hC hg hbad e fS fL ia ib u1 u2 hl hl2 n1 n2 np nq hy hlq hlp hsm
    rcases hgg with ⟨h0, rfl⟩ | ⟨h0, hgn⟩
    · rw [if_pos h0] at eE
      rw [eE, if_pos rfl] at eS eL
      rw [eE, eS, eL]
      clear eE eS eL h0
      generalize l.length = L at *
      generalize k.length = K at *
      generalize hM : m.length = M at *
      have HM := Lib.hid hM
      clear hM
      go_enter Tryz.func16, Tryz.ntmps16
      go_wp2_with fail
      refine (HF.out _ hB0).mono ?_
      rintro e w1 ⟨Aq, cq, rfl, uq, hc1⟩
      have hal : Below w1.heap.size w1 (w1.alloc (.cells #[.bool r, .slice Aq M cq] 36)) := (Below.refl _ _).alloc (Nat.le_refl _) _
      obtain ⟨x0, x1, _, _, _⟩ := Box.new w1 (.bool r) (.slice Aq M cq) 36
      have hall := from_ hc1 hal
      have hdr := hall.drew
      have hs := And.intro (keepC hdr a0) (And.intro (keepC hdr a1) (And.intro (keepC hdr b0) (And.intro (keepC hdr b1) (And.intro (keepC (Below.refl _ (w1.alloc (.cells #[.bool r, .slice Aq M cq] 36))).drew x0) (keepC (Below.refl _ (w1.alloc (.cells #[.bool r, .slice Aq M cq] 36))).drew x1)))))
      have HB1 := Lib.hid (from_ hB0 hdr)
      have bR1 := Lib.hid (bR.below hdr)
      have Hne := Lib.hid (show ¬ (w1.heap.size = w.heap.size + 2) from by have := (bR.below hc1).lt; omega)
      replace uq := uq.below (hal.drew)
      have Hlt := Lib.hid (bR.lt)
      clear bR hB0 hc1 hal hall hdr a0 a1 b0 b1 x0 x1
      go_wp2
      go_region_held3 (fun w' => w'.cell? ⟨w.heap.size, 0, none⟩ = some (.bool s) ∧ w'.cell? ⟨w.heap.size, 1, none⟩ = some (.slice A L c) ∧ w'.cell? ⟨w.heap.size + 1, 0, none⟩ = some (.bool t) ∧ w'.cell? ⟨w.heap.size + 1, 1, none⟩ = some (.slice B K d) ∧ w'.cell? ⟨w1.heap.size, 0, none⟩ = some (.bool r) ∧ w'.cell? ⟨w1.heap.size, 1, none⟩ = some (.slice Aq M cq))
        (first
          | with_reducible exact hs)
        (first
          | (go_at_call 69; refine (HTm.out _ _ _ _ HB1.out uq).mono ?_; rintro e w2 ⟨Ap, cp, rfl, up, hc⟩; replace hs := And.intro (keepC hc hs.1) (And.intro (keepC hc hs.2.1) (And.intro (keepC hc hs.2.2.1) (And.intro (keepC hc hs.2.2.2.1) (And.intro (keepC hc hs.2.2.2.2.1) (keepC hc hs.2.2.2.2.2))))); have HB2 := Lib.hid (from_ HB1.out hc); have bR2 := Lib.hid (bR1.out.below hc); have uq2 := uq.below hc)
          | (go_at_call 68; refine (HC.out _ _ _ _ HB2.out up).mono ?_; rintro e w3 ⟨rfl, hc⟩; replace hs := And.intro (keepC hc hs.1) (And.intro (keepC hc hs.2.1) (And.intro (keepC hc hs.2.2.1) (And.intro (keepC hc hs.2.2.2.1) (And.intro (keepC hc hs.2.2.2.2.1) (keepC hc hs.2.2.2.2.2))))); have HB3 := Lib.hid (from_ HB2.out hc); have bR3 := Lib.hid (bR2.out.below hc); have uq3 := Lib.hid (uq2.below hc)))
      all_goals
        obtain ⟨q0, q1, f0, f1, _⟩ := id bR3.out
        have hP := bR3.out.put HB3.out (by omega) (.bool r) (.slice Aq M cq)
        have HP := Lib.hid hP
        have hu2 := hP.keep (by have := Hlt.out; omega) (⟨Aq, cq, by rw [HM.out], uq3.out⟩ : IsU w3 _ (.slice Aq M cq) m)
        have Hu := Lib.hid hu2
        obtain ⟨-, -, -, -, x0, x1⟩ := hs
        clear hP hu2 uq up uq2
        go_wp2
        refine bodyPost_ret (res_int2 rfl _ (w.heap.size + 2) rfl HP.out.c0 HP.out.c1) rfl ?_
        obtain ⟨A', c', e', hu⟩ := Hu.out
        injection e' with e1 e2 e3
        subst e1 e3
        exact ⟨_, _, rfl, hu, HP.out.bel⟩
    · rw [if_neg h0] at eE
      rw [eE, if_neg (by omega)] at eS eL
      rw [eE, eS, eL]
      clear eE eS eL h0
      generalize l.length = L at *
      generalize k.length = K at *
      generalize hM : m.length = M at *
      have HM := Lib.hid hM
      clear hM
      go_enter Tryz.func16, Tryz.ntmps16
      go_wp2_with fail
      refine (HF.out _ hB0).mono ?_
      rintro e w1 ⟨Aq, cq, rfl, uq, hc1⟩
      have hal : Below w1.heap.size w1 (w1.alloc (.cells #[.bool r, .slice Aq M cq] 36)) := (Below.refl _ _).alloc (Nat.le_refl _) _
      obtain ⟨x0, x1, _, _, _⟩ := Box.new w1 (.bool r) (.slice Aq M cq) 36
      have hall := from_ hc1 hal
      have hdr := hall.drew
      have hs := And.intro (keepC hdr a0) (And.intro (keepC hdr a1) (And.intro (keepC hdr b0) (And.intro (keepC hdr b1) (And.intro (keepC (Below.refl _ (w1.alloc (.cells #[.bool r, .slice Aq M cq] 36))).drew x0) (keepC (Below.refl _ (w1.alloc (.cells #[.bool r, .slice Aq M cq] 36))).drew x1)))))
      have HB1 := Lib.hid (from_ hB0 hdr)
      have bR1 := Lib.hid (bR.below hdr)
      have Hne := Lib.hid (show ¬ (w1.heap.size = w.heap.size + 2) from by have := (bR.below hc1).lt; omega)
      replace uq := uq.below (hal.drew)
      have Hlt := Lib.hid (bR.lt)
      clear bR hB0 hc1 hal hall hdr a0 a1 b0 b1 x0 x1
      go_wp2
      go_region_held3 (fun w' => w'.cell? ⟨w.heap.size, 0, none⟩ = some (.bool s) ∧ w'.cell? ⟨w.heap.size, 1, none⟩ = some (.slice A L c) ∧ w'.cell? ⟨w.heap.size + 1, 0, none⟩ = some (.bool t) ∧ w'.cell? ⟨w.heap.size + 1, 1, none⟩ = some (.slice B K d) ∧ w'.cell? ⟨w1.heap.size, 0, none⟩ = some (.bool r) ∧ w'.cell? ⟨w1.heap.size, 1, none⟩ = some (.slice Aq M cq))
        (first
          | with_reducible exact hs)
        (first
          | (go_at_call 69; refine (HTm.out _ _ _ _ HB1.out uq).mono ?_; rintro e w2 ⟨Ap, cp, rfl, up, hc⟩; replace hs := And.intro (keepC hc hs.1) (And.intro (keepC hc hs.2.1) (And.intro (keepC hc hs.2.2.1) (And.intro (keepC hc hs.2.2.2.1) (And.intro (keepC hc hs.2.2.2.2.1) (keepC hc hs.2.2.2.2.2))))); have HB2 := Lib.hid (from_ HB1.out hc); have bR2 := Lib.hid (bR1.out.below hc); have uq2 := uq.below hc)
          | (go_at_call 68; refine (HC.out _ _ _ _ HB2.out up).mono ?_; rintro e w3 ⟨rfl, hc⟩; replace hs := And.intro (keepC hc hs.1) (And.intro (keepC hc hs.2.1) (And.intro (keepC hc hs.2.2.1) (And.intro (keepC hc hs.2.2.2.1) (And.intro (keepC hc hs.2.2.2.2.1) (keepC hc hs.2.2.2.2.2))))); have HB3 := Lib.hid (from_ HB2.out hc); have bR3 := Lib.hid (bR2.out.below hc); have uq3 := Lib.hid (uq2.below hc)))
      all_goals
        obtain ⟨q0, q1, f0, f1, _⟩ := id bR3.out
        have hP := bR3.out.put HB3.out (by omega) (.bool false) (.slice none 0 0)
        have HP := Lib.hid hP
        clear hP hs uq up uq2
        go_wp2
        refine bodyPost_ret (res_int2 rfl _ (w.heap.size + 2) rfl HP.out.c0 HP.out.c1) rfl ?_
        exact ⟨none, 0, rfl, U64s.nil _ _, HP.out.bel⟩
  · obtain ⟨e1, e2, e3⟩ := hbad e
    have eS : wxS s l t k = false := if_neg (by rw [e1]; exact e)
    have eL : wxL s l t k = [] := if_neg (by rw [e1]; exact e)
    rw [e1, eS, eL]
    rw [e2, e3] at hF
    obtain ⟨E, hE⟩ : ∃ E, E = flE s l t k := ⟨_, rfl⟩
    rw [← hE] at hF e ⊢
    have hE1 : (E != 0) = true := by simp [e]
    have HF := Lib.hid hF
    clear hF hbad e e1 e2 e3 eE eS eL ia ib u1 u2 hl hl2 hE
    generalize l.length = L at *
    generalize k.length = K at *
    go_enter Tryz.func16, Tryz.ntmps16
    go_wp2_with fail
    refine (HF.out _ hB0).mono ?_
    rintro e w1 ⟨Aq, cq, rfl, -, hc1⟩
    have hal : Below w1.heap.size w1 (w1.alloc (.cells #[.bool false, .slice Aq 0 cq] 36)) := (Below.refl _ _).alloc (Nat.le_refl _) _
    obtain ⟨x0, x1, _, _, _⟩ := Box.new w1 (.bool false) (.slice Aq 0 cq) 36
    have bR1 := (bR.below hc1).below hal
    have hP := bR1.put (from_ (from_ hB0 hc1) hal) (by omega) (.bool false) (.slice none 0 0)
    have HP := Lib.hid hP
    obtain ⟨q0, q1, f0, f1, _⟩ := bR1
    clear hP bR hB0 hal hc1
    go_wp2
    refine bodyPost_ret (res_int2 rfl _ (w.heap.size + 2) rfl HP.out.c0 HP.out.c1) rfl ?_
    exact ⟨none, 0, rfl, U64s.nil _ _, HP.out.bel⟩

end Go.Proofs.YtceenaegchlbcaaGreatDoor

namespace Go.Proofs.YtceenaegchlbcaaGreatDoor
open Go.RowKit
set_option linter.unusedVariables false
set_option linter.unusedSimpArgs false

theorem r5sum_v {w : World} {Z1 Z2 : Zone} {x y z : Int} {s t r : Bool} {l k m : List Nat} {A B : Option Addr} {c d : Nat} (h1 : Nm x s l) (h2 : Nm y t k) (h3 : Nm z r m) (hz : x + y = z) (hl : l.length ≤ 10000) (hl2 : k.length ≤ 10000) (u1 : U64s w Z1 A c l) (u2 : U64s w Z2 B d k) :
    Calls Tryz.prog 137 #[.agg #[.bool s, .slice A l.length c], .agg #[.bool t, .slice B k.length d]] w fun e w' => ∃ Av cv, e = .returned (.agg #[.bool r, .slice Av m.length cv]) ∧ U64s w' (new w.heap.size) Av cv m ∧ Below w.heap.size w w' := by
  subst hz
  refine (r5sum_good (h1.isZ u1) (h2.isZ u2) (nm_len h1 _ hl) (nm_len h2 _ hl2)).mono ?_
  rintro e w' ⟨v, rfl, hv, hb⟩
  obtain ⟨Av, cv, rfl, hu⟩ := h3.of hv
  exact ⟨Av, cv, rfl, hu, hb⟩
theorem rtimes_v {w : World} {Z1 Z2 : Zone} {x y z : Int} {l k m : List Nat} {A B : Option Addr} {c d : Nat} (h1 : Nm x false l) (h2 : Nm y false k) (h3 : Nm z false m) (hz : x * y = z) (hl : l.length ≤ 10000) (hl2 : k.length ≤ 10000) (u1 : U64s w Z1 A c l) (u2 : U64s w Z2 B d k) :
    Calls Tryz.prog 61 #[.slice A l.length c, .slice B k.length d] w fun e w' => ∃ Av cv, e = .returned (.slice Av m.length cv) ∧ U64s w' (new w.heap.size) Av cv m ∧ Below w.heap.size w w' := by
  refine (rtimes_good (h1.isN u1) (h2.isN u2) (by rw [← h1.len]; omega) (by rw [← h2.len]; omega)).mono ?_
  rintro e w' ⟨v, rfl, hv, hb⟩
  have e1 : x.natAbs * y.natAbs = z.natAbs := by rw [← hz, Int.natAbs_mul]
  rw [e1] at hv
  obtain ⟨Av, cv, rfl, hu⟩ := hv
  rw [← h3.2] at hu ⊢
  exact ⟨Av, cv, rfl, hu, hb⟩

theorem r6low_q {w : World} {Z Y : Zone} {x y : Int} {q : Rat} {s r : Bool} {l k la ld : List Nat} {A B : Option Addr} {c d : Nat} (h1 : Nm x s l) (h2 : Nm y false k) (hy : 0 < y) (h3 : NmQ q r la ld) (hq : Rat.divInt x y = q) (hl : l.length ≤ 1000) (hl2 : k.length ≤ 1000) (u1 : U64s w Z A c l) (u2 : U64s w Y B d k) :
    Calls Tryz.prog 92 #[.agg #[.bool s, .slice A l.length c], .slice B k.length d] w fun e w' => ∃ An cn Ad cd, e = .returned (.agg #[.bool r, .slice An la.length cn, .slice Ad ld.length cd]) ∧ U64s w' (new w.heap.size) An cn la ∧ U64s w' (new w.heap.size) Ad cd ld ∧ Below w.heap.size w w' := by
  obtain ⟨p1, p2, p3⟩ := divInt_parts (x := x) (y := y) (by omega)
  rw [hq] at p1 p2 p3
  have ea : ratA l k = la := by unfold ratA; rw [h1.val, h2.val, ← p1]; exact h3.2.1.symm
  have ed : ratD l k = ld := by unfold ratD; rw [h1.val, h2.val, ← p2]; exact h3.2.2.symm
  have hk : 0 < k.length := by rw [h2.2]; exact len_pos.2 (by omega)
  have hr : r = s := by
    rw [h3.1, h1.1]
    refine decide_eq_decide.2 (p3.trans ?_)
    omega
  subst hr
  have := low_good (s := r) u1 u2 (okI_good h1.okI) (okI_good h2.okI) hk hl hl2
  rwa [ea, ed] at this

set_option maxRecDepth 100000 in
set_option maxHeartbeats 4000000 in
theorem r6times_n {w : World} {Z1 Z2 : Zone} {x y z : Int} {s r : Bool} {l k m : List Nat} {A B : Option Addr} {c d : Nat} (h1 : Nm x s l) (h2 : Nm y false k) (h3 : Nm z r m) (hz : x * y = z) (hl : l.length ≤ 10000) (hl2 : k.length ≤ 10000) (u1 : U64s w Z1 A c l) (u2 : U64s w Z2 B d k) :
    Calls Tryz.prog 91 #[.agg #[.bool s, .slice A l.length c], .slice B k.length d] w fun e w' => ∃ Av cv, e = .returned (.agg #[.bool r, .slice Av m.length cv]) ∧ U64s w' (new w.heap.size) Av cv m ∧ Below w.heap.size w w' := by
  obtain ⟨bA, bR, hB0⟩ := boxes2 w (.bool s) (.slice A l.length c) (.bool false) (.slice none 0 0) 36
  have hT := r5times_v h1 h2 h3 hz (by omega) (by omega) (u1.below hB0) (u2.below hB0)
  have HT := Lib.hid hT
  have HB0 := Lib.hid hB0
  obtain ⟨a0, a1, _, _, _⟩ := bA
  clear hT hB0 h1 h2 h3 hz hl hl2 u1 u2
  generalize l.length = L at *
  generalize k.length = K at *
  go_enter Tryz.func91, Tryz.ntmps91
  go_wp2_with fail
  refine HT.out.mono ?_
  rintro e w1 ⟨Av, cv, rfl, hv, hc⟩
  have bR1 := bR.below hc
  have hP := bR1.put (from_ HB0.out hc) (by omega) (.bool r) (.slice Av m.length cv)
  have hu2 := hP.keep (by simp) (⟨Av, cv, rfl, hv⟩ : IsU w1 _ (.slice Av m.length cv) m)
  have Hu := Lib.hid hu2
  have HP := Lib.hid hP
  obtain ⟨q0, q1, f0, f1, _⟩ := bR1
  clear hv hu2 hP bR HB0 hc
  go_wp2
  refine bodyPost_ret (res_int rfl _ (w.heap.size + 1) rfl HP.out.c0 HP.out.c1) rfl ?_
  obtain ⟨A', c', e', hu⟩ := Hu.out
  injection e' with e1 _ e3
  subst e1 e3
  exact ⟨_, _, rfl, hu, HP.out.bel⟩

theorem den_mul {p q : Rat} : (0 : Int) < (p.den : Int) * (q.den : Int) := by
  have h1 := p.den_pos
  have h2 := q.den_pos
  exact Int.mul_pos (by omega) (by omega)
theorem nm_den {p q : Rat} : ∃ m, Nm ((p.den : Int) * (q.den : Int)) false m := by
  have := den_mul (p := p) (q := q)
  exact ⟨_, (decide_eq_false (by omega)).symm, rfl⟩

set_option maxRecDepth 100000 in
set_option maxHeartbeats 4000000 in
theorem r6sum_q {w : World} {Z1 Z2 Z3 Z4 : Zone} {s t : Bool} {l k l' k' : List Nat} {A B C D : Option Addr} {a b c d : Nat} {p q z : Rat} {r : Bool} {la ld : List Nat} (hp : NmQ p s l k) (hq : NmQ q t l' k') (hz : NmQ z r la ld) (he : p + q = z) (u1 : U64s w Z1 A a l) (u2 : U64s w Z2 B b k) (u3 : U64s w Z3 C c l') (u4 : U64s w Z4 D d k') (q1 : l.length ≤ 300) (q2 : k.length ≤ 300) (q3 : l'.length ≤ 300) (q4 : k'.length ≤ 300) :
    Calls Tryz.prog 82 #[.agg #[.bool s, .slice A l.length a, .slice B k.length b], .agg #[.bool t, .slice C l'.length c, .slice D k'.length d]] w fun e w' => ∃ An cn Ad cd, e = .returned (.agg #[.bool r, .slice An la.length cn, .slice Ad ld.length cd]) ∧ U64s w' (new w.heap.size) An cn la ∧ U64s w' (new w.heap.size) Ad cd ld ∧ Below w.heap.size w w' := by
  obtain ⟨bA, bB, bR, hB0⟩ := boxesQ w (.bool s) (.slice A l.length a) (.slice B k.length b) (.bool t) (.slice C l'.length c) (.slice D k'.length d) (.bool false) (.slice none 0 0) (.slice none 0 0)
  obtain ⟨s1, l1, n1⟩ : ∃ s1 l1, Nm (p.num * (q.den : Int)) s1 l1 := ⟨_, _, Nm.mk' _⟩
  obtain ⟨s2, l2, n2⟩ : ∃ s2 l2, Nm (q.num * (p.den : Int)) s2 l2 := ⟨_, _, Nm.mk' _⟩
  obtain ⟨s3, l3, n3⟩ : ∃ s3 l3, Nm (p.num * (q.den : Int) + q.num * (p.den : Int)) s3 l3 := ⟨_, _, Nm.mk' _⟩
  obtain ⟨l4, n4⟩ := nm_den (p := p) (q := q)
  have m1 := lz_mul p.num (q.den : Int)
  have m2 := lz_mul q.num (p.den : Int)
  have m3 := lz_add (p.num * (q.den : Int)) (q.num * (p.den : Int))
  have m4 := lz_mul (p.den : Int) (q.den : Int)
  rw [← n1.len, ← hp.num.len, ← hq.den.len] at m1
  rw [← n2.len, ← hq.num.len, ← hp.den.len] at m2
  rw [← n3.len, ← n1.len, ← n2.len] at m3
  rw [← n4.len, ← hp.den.len, ← hq.den.len] at m4
  have C1 : Hid (∀ W, Below w.heap.size w W → Calls Tryz.prog 91 #[.agg #[.bool s, .slice A l.length a], .slice D k'.length d] W fun e w' => ∃ Av cv, e = .returned (.agg #[.bool s1, .slice Av l1.length cv]) ∧ U64s w' (new W.heap.size) Av cv l1 ∧ Below W.heap.size W w') := fun W h => r6times_n hp.num hq.den n1 rfl (by omega) (by omega) (u1.below h) (u4.below h)
  have C2 : Hid (∀ W, Below w.heap.size w W → Calls Tryz.prog 91 #[.agg #[.bool t, .slice C l'.length c], .slice B k.length b] W fun e w' => ∃ Av cv, e = .returned (.agg #[.bool s2, .slice Av l2.length cv]) ∧ U64s w' (new W.heap.size) Av cv l2 ∧ Below W.heap.size W w') := fun W h => r6times_n hq.num hp.den n2 rfl (by omega) (by omega) (u3.below h) (u2.below h)
  have C3 : Hid (∀ W Z Y A1 c1 A2 c2, U64s W Z A1 c1 l1 → U64s W Y A2 c2 l2 → Calls Tryz.prog 137 #[.agg #[.bool s1, .slice A1 l1.length c1], .agg #[.bool s2, .slice A2 l2.length c2]] W fun e w' => ∃ Av cv, e = .returned (.agg #[.bool s3, .slice Av l3.length cv]) ∧ U64s w' (new W.heap.size) Av cv l3 ∧ Below W.heap.size W w') := fun W Z Y A1 c1 A2 c2 h1 h2 => r5sum_v n1 n2 n3 rfl (by omega) (by omega) h1 h2
  have C4 : Hid (∀ W, Below w.heap.size w W → Calls Tryz.prog 61 #[.slice B k.length b, .slice D k'.length d] W fun e w' => ∃ Av cv, e = .returned (.slice Av l4.length cv) ∧ U64s w' (new W.heap.size) Av cv l4 ∧ Below W.heap.size W w') := fun W h => rtimes_v hp.den hq.den n4 rfl (by omega) (by omega) (u2.below h) (u4.below h)
  have C5 : Hid (∀ W Z Y A1 c1 A2 c2, U64s W Z A1 c1 l3 → U64s W Y A2 c2 l4 → Calls Tryz.prog 92 #[.agg #[.bool s3, .slice A1 l3.length c1], .slice A2 l4.length c2] W fun e w' => ∃ An cn Ad cd, e = .returned (.agg #[.bool r, .slice An la.length cn, .slice Ad ld.length cd]) ∧ U64s w' (new W.heap.size) An cn la ∧ U64s w' (new W.heap.size) Ad cd ld ∧ Below W.heap.size W w') := fun W Z Y A1 c1 A2 c2 h1 h2 => r6low_q n3 n4 den_mul hz (by rw [rat_add, he]) (by omega) (by omega) h1 h2
  have hs0 := And.intro bA.c0 (And.intro bA.c1 (And.intro bA.c2 (And.intro bB.c0 (And.intro bB.c1 bB.c2))))
  have hs := boxQ_keep hs0 (Below.refl _ _).drew
  have Hc := Lib.hid hB0.drew
  have BRx : Box3 _ (w.heap.size + 1 + 1) _ _ _ := bR.below (Below.refl _ _).drew
  have HR := Lib.hid BRx
  obtain ⟨a0, a1, a2, _, _, _, _⟩ := bA
  obtain ⟨b0, b1, b2, _, _, _, _⟩ := bB
  clear u1 u2 u3 u4 q1 q2 q3 q4 hp hq hz he n1 n2 n3 n4 m1 m2 m3 m4 hB0 bR BRx hs0
  go_enter Tryz.func82, Tryz.ntmps82
  go_wp2
  generalize hgR : w.heap.size + 1 + 1 = gR at *
  have N1 := Lib.hid (show gR ≠ w.heap.size by omega)
  have N2 := Lib.hid (show gR ≠ w.heap.size + 1 by omega)
  have N3 := Lib.hid (show w.heap.size ≤ gR by omega)
  clear hgR
  first | go_region_held3 (fun w' => w'.cell? ⟨w.heap.size, 0, none⟩ = some (.bool s) ∧ w'.cell? ⟨w.heap.size, 1, none⟩ = some (.slice A l.length a) ∧ w'.cell? ⟨w.heap.size, 2, none⟩ = some (.slice B k.length b) ∧ w'.cell? ⟨(w.heap.size + 1), 0, none⟩ = some (.bool t) ∧ w'.cell? ⟨(w.heap.size + 1), 1, none⟩ = some (.slice C l'.length c) ∧ w'.cell? ⟨(w.heap.size + 1), 2, none⟩ = some (.slice D k'.length d))
    (first
      | with_reducible exact hs
      | with_reducible exact boxQ_st3 N1.out N2.out hs)
    (first
      | (go_at_call 91; with_reducible refine (C1.out _ Hc.out).mono ?_; rintro e w' ⟨A1, c1, rfl, v1, hc⟩; replace hs := boxQ_keep hs hc; have Hp := Hc; replace Hc := Lib.hid (from_ Hc.out hc); have zl := HR.out.lt; replace HR := Lib.hid (HR.out.below hc); (try replace v2 := v2.below hc); (try replace vt := vt.below hc))
      | (go_at_call 91; with_reducible refine (C2.out _ Hc.out).mono ?_; rintro e w' ⟨A2, c2, rfl, v2, hc⟩; replace hs := boxQ_keep hs hc; have Hp := Hc; replace Hc := Lib.hid (from_ Hc.out hc); have zl := HR.out.lt; replace HR := Lib.hid (HR.out.below hc); (try replace v1 := v1.below hc); (try replace vt := vt.below hc))
      | (go_at_call 137; with_reducible refine (C3.out _ _ _ _ _ _ _ v1 v2).mono ?_; rintro e w' ⟨A5, c5, rfl, vs, hc⟩; replace hs := boxQ_keep hs hc; have Hp := Hc; replace Hc := Lib.hid (from_ Hc.out hc); have zl := HR.out.lt; replace HR := Lib.hid (HR.out.below hc); (try replace vt := vt.below hc))
      | (go_at_call 61; with_reducible refine (C4.out _ Hc.out).mono ?_; rintro e w' ⟨A6, c6, rfl, vt, hc⟩; replace hs := boxQ_keep hs hc; have Hp := Hc; replace Hc := Lib.hid (from_ Hc.out hc); have zl := HR.out.lt; replace HR := Lib.hid (HR.out.below hc); (try replace v1 := v1.below hc); (try replace v2 := v2.below hc); (try replace vs := vs.below hc))
      | (go_at_call 92; with_reducible refine (C5.out _ _ _ _ _ _ _ vs vt).mono ?_; rintro e w' ⟨An, cn, Ad, cd, rfl, v3, v4, hc⟩; replace hs := boxQ_keep hs hc; have Hp := Hc; replace Hc := Lib.hid (from_ Hc.out hc); have zl := HR.out.lt; replace HR := Lib.hid (HR.out.below hc); obtain ⟨qq0, qq1, qq2, ff0, ff1, ff2, _⟩ := id HR.out)) | fail
  all_goals
    have HP := Lib.hid (HR.out.put Hc.out N3.out (.bool r) (.slice An la.length cn) (.slice Ad ld.length cd))
    have HN5 := Lib.hid ((HP.out.keep (fun (h : _ ≤ gR) => by omega) v3).mono (Y := new w.heap.size) (new_le Hp.out.size))
    have HD5 := Lib.hid ((HP.out.keep (fun (h : _ ≤ gR) => by omega) v4).mono (Y := new w.heap.size) (new_le Hp.out.size))
    clear v3 v4
    go_wp2
    refine bodyPost_ret (res_rat rfl _ gR rfl HP.out.c0 HP.out.c1 HP.out.c2) rfl ?_
    exact ⟨_, _, _, _, rfl, HN5.out, HD5.out, HP.out.bel⟩

set_option maxRecDepth 100000 in
set_option maxHeartbeats 4000000 in
theorem r6mul_q {w : World} {Z1 Z2 Z3 Z4 : Zone} {s t : Bool} {l k l' k' : List Nat} {A B C D : Option Addr} {a b c d : Nat} {p q z : Rat} {r : Bool} {la ld : List Nat} (hp : NmQ p s l k) (hq : NmQ q t l' k') (hz : NmQ z r la ld) (he : p * q = z) (u1 : U64s w Z1 A a l) (u2 : U64s w Z2 B b k) (u3 : U64s w Z3 C c l') (u4 : U64s w Z4 D d k') (q1 : l.length ≤ 300) (q2 : k.length ≤ 300) (q3 : l'.length ≤ 300) (q4 : k'.length ≤ 300) :
    Calls Tryz.prog 88 #[.agg #[.bool s, .slice A l.length a, .slice B k.length b], .agg #[.bool t, .slice C l'.length c, .slice D k'.length d]] w fun e w' => ∃ An cn Ad cd, e = .returned (.agg #[.bool r, .slice An la.length cn, .slice Ad ld.length cd]) ∧ U64s w' (new w.heap.size) An cn la ∧ U64s w' (new w.heap.size) Ad cd ld ∧ Below w.heap.size w w' := by
  obtain ⟨bA, bB, bR, hB0⟩ := boxesQ w (.bool s) (.slice A l.length a) (.slice B k.length b) (.bool t) (.slice C l'.length c) (.slice D k'.length d) (.bool false) (.slice none 0 0) (.slice none 0 0)
  obtain ⟨s3, l3, n3⟩ : ∃ s3 l3, Nm (p.num * q.num) s3 l3 := ⟨_, _, Nm.mk' _⟩
  obtain ⟨l4, n4⟩ := nm_den (p := p) (q := q)
  have m3 := lz_mul p.num q.num
  have m4 := lz_mul (p.den : Int) (q.den : Int)
  rw [← n3.len, ← hp.num.len, ← hq.num.len] at m3
  rw [← n4.len, ← hp.den.len, ← hq.den.len] at m4
  have C1 : Hid (∀ W, Below w.heap.size w W → Calls Tryz.prog 69 #[.agg #[.bool s, .slice A l.length a], .agg #[.bool t, .slice C l'.length c]] W fun e w' => ∃ Av cv, e = .returned (.agg #[.bool s3, .slice Av l3.length cv]) ∧ U64s w' (new W.heap.size) Av cv l3 ∧ Below W.heap.size W w') := fun W h => r5times_v hp.num hq.num n3 rfl (by omega) (by omega) (u1.below h) (u3.below h)
  have C4 : Hid (∀ W, Below w.heap.size w W → Calls Tryz.prog 61 #[.slice B k.length b, .slice D k'.length d] W fun e w' => ∃ Av cv, e = .returned (.slice Av l4.length cv) ∧ U64s w' (new W.heap.size) Av cv l4 ∧ Below W.heap.size W w') := fun W h => rtimes_v hp.den hq.den n4 rfl (by omega) (by omega) (u2.below h) (u4.below h)
  have C5 : Hid (∀ W Z Y A1 c1 A2 c2, U64s W Z A1 c1 l3 → U64s W Y A2 c2 l4 → Calls Tryz.prog 92 #[.agg #[.bool s3, .slice A1 l3.length c1], .slice A2 l4.length c2] W fun e w' => ∃ An cn Ad cd, e = .returned (.agg #[.bool r, .slice An la.length cn, .slice Ad ld.length cd]) ∧ U64s w' (new W.heap.size) An cn la ∧ U64s w' (new W.heap.size) Ad cd ld ∧ Below W.heap.size W w') := fun W Z Y A1 c1 A2 c2 h1 h2 => r6low_q n3 n4 den_mul hz (by rw [rat_mul, he]) (by omega) (by omega) h1 h2
  have hs0 := And.intro bA.c0 (And.intro bA.c1 (And.intro bA.c2 (And.intro bB.c0 (And.intro bB.c1 bB.c2))))
  have hs := boxQ_keep hs0 (Below.refl _ _).drew
  have Hc := Lib.hid hB0.drew
  have BRx : Box3 _ (w.heap.size + 1 + 1) _ _ _ := bR.below (Below.refl _ _).drew
  have HR := Lib.hid BRx
  obtain ⟨a0, a1, a2, _, _, _, _⟩ := bA
  obtain ⟨b0, b1, b2, _, _, _, _⟩ := bB
  clear u1 u2 u3 u4 q1 q2 q3 q4 hp hq hz he n3 n4 m3 m4 hB0 bR BRx hs0
  go_enter Tryz.func88, Tryz.ntmps88
  go_wp2
  generalize hgR : w.heap.size + 1 + 1 = gR at *
  have N1 := Lib.hid (show gR ≠ w.heap.size by omega)
  have N2 := Lib.hid (show gR ≠ w.heap.size + 1 by omega)
  have N3 := Lib.hid (show w.heap.size ≤ gR by omega)
  clear hgR
  first | go_region_held3 (fun w' => w'.cell? ⟨w.heap.size, 0, none⟩ = some (.bool s) ∧ w'.cell? ⟨w.heap.size, 1, none⟩ = some (.slice A l.length a) ∧ w'.cell? ⟨w.heap.size, 2, none⟩ = some (.slice B k.length b) ∧ w'.cell? ⟨(w.heap.size + 1), 0, none⟩ = some (.bool t) ∧ w'.cell? ⟨(w.heap.size + 1), 1, none⟩ = some (.slice C l'.length c) ∧ w'.cell? ⟨(w.heap.size + 1), 2, none⟩ = some (.slice D k'.length d))
    (first
      | with_reducible exact hs
      | with_reducible exact boxQ_st3 N1.out N2.out hs)
    (first
      | (go_at_call 69; with_reducible refine (C1.out _ Hc.out).mono ?_; rintro e w' ⟨A5, c5, rfl, vs, hc⟩; replace hs := boxQ_keep hs hc; have Hp := Hc; replace Hc := Lib.hid (from_ Hc.out hc); have zl := HR.out.lt; replace HR := Lib.hid (HR.out.below hc); (try replace vt := vt.below hc))
      | (go_at_call 61; with_reducible refine (C4.out _ Hc.out).mono ?_; rintro e w' ⟨A6, c6, rfl, vt, hc⟩; replace hs := boxQ_keep hs hc; have Hp := Hc; replace Hc := Lib.hid (from_ Hc.out hc); have zl := HR.out.lt; replace HR := Lib.hid (HR.out.below hc); (try replace vs := vs.below hc))
      | (go_at_call 92; with_reducible refine (C5.out _ _ _ _ _ _ _ vs vt).mono ?_; rintro e w' ⟨An, cn, Ad, cd, rfl, v3, v4, hc⟩; replace hs := boxQ_keep hs hc; have Hp := Hc; replace Hc := Lib.hid (from_ Hc.out hc); have zl := HR.out.lt; replace HR := Lib.hid (HR.out.below hc); obtain ⟨qq0, qq1, qq2, ff0, ff1, ff2, _⟩ := id HR.out)) | fail
  all_goals
    have HP := Lib.hid (HR.out.put Hc.out N3.out (.bool r) (.slice An la.length cn) (.slice Ad ld.length cd))
    have HN5 := Lib.hid ((HP.out.keep (fun (h : _ ≤ gR) => by omega) v3).mono (Y := new w.heap.size) (new_le Hp.out.size))
    have HD5 := Lib.hid ((HP.out.keep (fun (h : _ ≤ gR) => by omega) v4).mono (Y := new w.heap.size) (new_le Hp.out.size))
    clear v3 v4
    go_wp2
    refine bodyPost_ret (res_rat rfl _ gR rfl HP.out.c0 HP.out.c1 HP.out.c2) rfl ?_
    exact ⟨_, _, _, _, rfl, HN5.out, HD5.out, HP.out.bel⟩

theorem keep3P {W W' : World} {g : Nat} {x0 x1 x2 : Value} (hs : W.cell? ⟨g, 0, none⟩ = some x0 ∧ W.cell? ⟨g, 1, none⟩ = some x1 ∧ W.cell? ⟨g, 2, none⟩ = some x2) (hb : Below W.heap.size W W') :
    W'.cell? ⟨g, 0, none⟩ = some x0 ∧ W'.cell? ⟨g, 1, none⟩ = some x1 ∧ W'.cell? ⟨g, 2, none⟩ = some x2 := ⟨keepC hb hs.1, keepC hb hs.2.1, keepC hb hs.2.2⟩
theorem st3P {W : World} {g r : Nat} {x0 x1 x2 x y z : Value} (hg : r ≠ g) (hs : W.cell? ⟨g, 0, none⟩ = some x0 ∧ W.cell? ⟨g, 1, none⟩ = some x1 ∧ W.cell? ⟨g, 2, none⟩ = some x2) :
    let V := ((W.setCell ⟨r, 0, none⟩ x).setCell ⟨r, 1, none⟩ y).setCell ⟨r, 2, none⟩ z
    V.cell? ⟨g, 0, none⟩ = some x0 ∧ V.cell? ⟨g, 1, none⟩ = some x1 ∧ V.cell? ⟨g, 2, none⟩ = some x2 := ⟨stQ3 hs.1 hg, stQ3 hs.2.1 hg, stQ3 hs.2.2 hg⟩
set_option maxRecDepth 100000 in
set_option maxHeartbeats 4000000 in
theorem r6turned_n {w : World} {Z1 : Zone} {s r : Bool} {l k : List Nat} {A B : Option Addr} {a b : Nat} (hr : (!s && decide (0 < l.length)) = r) (u1 : U64s w Z1 A a l) (q1 : l.length ≤ 300) :
    Calls Tryz.prog 85 #[.agg #[.bool s, .slice A l.length a, .slice B k.length b]] w fun e w' => ∃ An cn, e = .returned (.agg #[.bool r, .slice An l.length cn, .slice B k.length b]) ∧ U64s w' (new w.heap.size) An cn l ∧ Below w.heap.size w w' := by
  have hB := box_rat w (.bool s) (.slice A l.length a) (.slice B k.length b)
  have bA := (Box3.new w (.bool s) (.slice A l.length a) (.slice B k.length b) 48).alloc (.cells #[.bool false, .slice none 0 0, .slice none 0 0] 48)
  have bR := Box3.new (w.alloc (.cells #[.bool s, .slice A l.length a, .slice B k.length b] 48)) (.bool false) (.slice none 0 0) (.slice none 0 0) 48
  have hB0 := hB.alloc hB.size (.cells #[.bool false, .slice none 0 0, .slice none 0 0] 48)
  rw [show (w.alloc (.cells #[.bool s, .slice A l.length a, .slice B k.length b] 48)).heap.size = w.heap.size + 1 by simp] at bR
  have CT : Hid (∀ W, Below w.heap.size w W → Calls Tryz.prog 66 #[.agg #[.bool s, .slice A l.length a]] W fun e w' => ∃ Av cv, e = .returned (.agg #[.bool r, .slice Av l.length cv]) ∧ U64s w' (new W.heap.size) Av cv l ∧ Below W.heap.size W w') := fun W h => by
    refine (r5turned_any (sg := r) ⟨_, rfl, A, a, rfl, u1.below h⟩ (by omega) hr).mono ?_
    rintro e w' ⟨Av, cv, rfl, ⟨A', c', e', hu⟩, hb⟩
    injection e' with e1 _ e3
    subst e1 e3
    exact ⟨_, _, rfl, hu, hb⟩
  have hs0 := And.intro bA.c0 (And.intro bA.c1 bA.c2)
  have hs := keep3P hs0 (Below.refl _ _).drew
  have Hc := Lib.hid hB0.drew
  have HR := Lib.hid (bR.below (Below.refl _ _).drew)
  obtain ⟨a0, a1, a2, _, _, _, _⟩ := bA
  clear u1 q1 hr hB hB0 bR hs0
  go_enter Tryz.func85, Tryz.ntmps85
  go_wp2
  have N1 := Lib.hid (show w.heap.size + 1 ≠ w.heap.size by omega)
  first | go_region_held3 (fun w' => w'.cell? ⟨w.heap.size, 0, none⟩ = some (.bool s) ∧ w'.cell? ⟨w.heap.size, 1, none⟩ = some (.slice A l.length a) ∧ w'.cell? ⟨w.heap.size, 2, none⟩ = some (.slice B k.length b))
    (first
      | with_reducible exact hs
      | with_reducible exact st3P N1.out hs)
    (first
      | (go_at_call 66; with_reducible refine (CT.out _ Hc.out).mono ?_; rintro e w' ⟨An, cn, rfl, v3, hc⟩; replace hs := keep3P hs hc; have Hp := Hc; replace Hc := Lib.hid (from_ Hc.out hc); have zl := HR.out.lt; replace HR := Lib.hid (HR.out.below hc); obtain ⟨qq0, qq1, qq2, ff0, ff1, ff2, _⟩ := id HR.out)) | fail
  all_goals
    have HP := Lib.hid (HR.out.put Hc.out (by omega) (.bool r) (.slice An l.length cn) (.slice B k.length b))
    have HN5 := Lib.hid ((HP.out.keep (fun (h : _ ≤ w.heap.size + 1) => by omega) v3).mono (Y := new w.heap.size) (new_le Hp.out.size))
    clear v3
    go_wp2
    refine bodyPost_ret (res_rat rfl _ (w.heap.size + 1) rfl HP.out.c0 HP.out.c1 HP.out.c2) rfl ?_
    exact ⟨_, _, rfl, HN5.out, HP.out.bel⟩

end Go.Proofs.YtceenaegchlbcaaGreatDoor
