/- (*looker).other of a quotient whose second number may be 0 and that stays within 64 bits. No conditions but bounds. -/
import Derived.Laws.EntriesVeiled
import Derived.Maps.Range
import Derived.Deep.RegionHeld3
import Derived.Deep.DeepCutAuto
import Derived.Test.YtcheajjjdbllfaaGreatNTelJ
import Derived.Test.YtcheajjjdbllfaaGreatNLnM
set_option linter.unusedVariables false
set_option linter.unusedSimpArgs false
set_option maxRecDepth 100000
set_option maxHeartbeats 40000000
namespace Go.Proofs.YtcheajjjdbllfaaGreat
open Go.Lib (hid)
open Go.RowKit
variable {V W w : World} {a0 : Value} {g : Nat}
theorem grownB {w' : World} (h : Below w.heap.size w w') (row : Option Nat) : w.grownBy w' row := ⟨h.os, h.tape, h.output, h.size, fun k hk _ => h.block k hk⟩
theorem Box6.newB (W : World) (a b c d e f : Value) (t : TypeId) : Box6 (W.alloc (.cells #[a, b, c, d, e, f] t)).drew W.heap.size a b c d e f := (Box6.new W a b c d e f t).below bdr_
theorem v1_al {o : Obj} (e : V = W.alloc o) (hs : W.cell? ⟨g, 0, none⟩ = some a0) : V.cell? ⟨g, 0, none⟩ = some a0 := by
 subst e
 exact keepC bal_ hs
theorem v1_dr (e : V = W.drew) (hs : W.cell? ⟨g, 0, none⟩ = some a0) : V.cell? ⟨g, 0, none⟩ = some a0 := by
 subst e
 exact hs
theorem v1_st6 {r : Nat} {x0 x1 x2 x3 x4 x5 : Value} (e : V = (((((W.setCell ⟨r, 0, none⟩ x0).setCell ⟨r, 1, none⟩ x1).setCell ⟨r, 2, none⟩ x2).setCell ⟨r, 3, none⟩ x3).setCell ⟨r, 4, none⟩ x4).setCell ⟨r, 5, none⟩ x5) (hg : r ≠ g) (hs : W.cell? ⟨g, 0, none⟩ = some a0) : V.cell? ⟨g, 0, none⟩ = some a0 := by
 subst e
 rw [World.cell?_setCell_other _ _ _ _ (fun e => hg (by injection e)), World.cell?_setCell_other _ _ _ _ (fun e => hg (by injection e)), World.cell?_setCell_other _ _ _ _ (fun e => hg (by injection e)), World.cell?_setCell_other _ _ _ _ (fun e => hg (by injection e)), World.cell?_setCell_other _ _ _ _ (fun e => hg (by injection e)), World.cell?_setCell_other _ _ _ _ (fun e => hg (by injection e))]
 exact hs
theorem zeroP_n : IvN 60 ((0, 0) : IvP).1 ((0, 0) : IvP).2 := iv_n (by decide) (by decide) (by decide) (by omega)
theorem lother_div {Z1 Z2 Z3 Z4 : Zone} {lk pn pc bn bc fa fb L M a b c d : Nat} {PA BA FA FB A B C D : Option Addr} {g0 g1 g2 g3 g4 g5 : Value} {w0 w1 w2 w3 w4 w5 : Bool} {p q : Iv} {P Q : IvP}
  (hk : BoxL w lk [g0, g1, g2, g3, g4, g5, .slice PA pn pc, .slice BA bn bc, .bool w0, .bool w1, .bool w2, .bool w3, .bool w4, .bool w5]) (hd : pn ≤ 63) (ip : IvW P p) (gp : IvN 60 P.1 P.2) (iq : IvW Q q) (gq : IvN 60 Q.1 Q.2) (u1 : U64s w Z1 A a p.l0) (u2 : U64s w Z2 B b p.l1) (u3 : U64s w Z3 C c q.l0) (u4 : U64s w Z4 D d q.l1) (y1 : ¬ Z1.blk lk) (y2 : ¬ Z2.blk lk) (y3 : ¬ Z3.blk lk) (y4 : ¬ Z4.blk lk)
  (h0 : Q.1 ≤ 0 ∧ 0 ≤ Q.2) (hne : partsP Q ≠ []) {r : Iv} (hr : IvW (ivD P Q) r) (hin : allP.1 ≤ (ivD P Q).1 ∧ (ivD P Q).2 ≤ allP.2) (gr : IvN 60 (ivD P Q).1 (ivD P Q).2) :
  Calls Tryz.prog 43 #[.pointer (some ⟨lk, 0, none⟩), .int .u8 8, .agg #[.bool p.n0, .bool p.s0, .slice A p.l0.length a, .bool p.n1, .bool p.s1, .slice B p.l1.length b, .slice FA L fa], .agg #[.bool q.n0, .bool q.s0, .slice C q.l0.length c, .bool q.n1, .bool q.s1, .slice D q.l1.length d, .slice FB M fb]] w fun e w' =>
   ∃ rA ra rB rb F f, e = .returned (.tuple #[.agg #[.bool r.n0, .bool r.s0, .slice rA r.l0.length ra, .bool r.n1, .bool r.s1, .slice rB r.l1.length rb, .slice F (pn + 1) f], .bool true]) ∧ U64s w' (new w.heap.size) rA ra r.l0 ∧ U64s w' (new w.heap.size) rB rb r.l1 ∧ IvsAt w' (new w.heap.size) F f (fmOf (constL pn (ivD P Q))) ∧ NewA w.heap.size F ∧ w.grownBy w' (some lk) ∧ BoxL w' lk [g0, g1, g2, g3, g4, g5, .slice PA pn pc, .slice BA bn bc, .bool w0, .bool w1, .bool w2, .bool true, .bool w4, .bool w5] := by
 obtain ⟨W1, hW1⟩ : ∃ W, ((((w.alloc (.cells #[.bool p.n0, .bool p.s0, .slice A p.l0.length a, .bool p.n1, .bool p.s1, .slice B p.l1.length b, .slice FA L fa] 70)).alloc (.cells #[.bool q.n0, .bool q.s0, .slice C q.l0.length c, .bool q.n1, .bool q.s1, .slice D q.l1.length d, .slice FB M fb] 70)).alloc (.cells #[.bool false, .bool false, .slice none 0 0, .bool false, .bool false, .slice none 0 0, .slice none 0 0] 70)).alloc (.cells #[.func (.func 63) #[] #[], .func (.func 64) #[] #[], .func (.func 65) #[] #[], .func (.func 66) #[] #[]] 122)) = W := ⟨_, rfl⟩
 have hB0 : Below w.heap.size w W1 := by
  rw [← hW1]
  exact ((((Below.refl _ w).alloc (Nat.le_refl _) _).alloc (by simp) _).alloc (by first | (simp; done) | (simp; omega)) _).alloc (by first | (simp; done) | (simp; omega)) _
 have HA : Hid (BoxL W1 w.heap.size [.bool p.n0, .bool p.s0, .slice A p.l0.length a, .bool p.n1, .bool p.s1, .slice B p.l1.length b, .slice FA L fa]) := hid (by
  rw [← hW1]
  exact (((BoxL.new w [.bool p.n0, .bool p.s0, .slice A p.l0.length a, .bool p.n1, .bool p.s1, .slice B p.l1.length b, .slice FA L fa] 70).alloc _).alloc _).alloc _)
 have HBb : Hid (BoxL W1 (w.heap.size + 1) [.bool q.n0, .bool q.s0, .slice C q.l0.length c, .bool q.n1, .bool q.s1, .slice D q.l1.length d, .slice FB M fb]) := hid (by
  rw [← hW1]
  have h := ((BoxL.new (w.alloc (.cells #[.bool p.n0, .bool p.s0, .slice A p.l0.length a, .bool p.n1, .bool p.s1, .slice B p.l1.length b, .slice FA L fa] 70)) [.bool q.n0, .bool q.s0, .slice C q.l0.length c, .bool q.n1, .bool q.s1, .slice D q.l1.length d, .slice FB M fb] 70).alloc (.cells #[.bool false, .bool false, .slice none 0 0, .bool false, .bool false, .slice none 0 0, .slice none 0 0] 70)).alloc (.cells #[.func (.func 63) #[] #[], .func (.func 64) #[] #[], .func (.func 65) #[] #[], .func (.func 66) #[] #[]] 122)
  rw [show (w.alloc (.cells #[.bool p.n0, .bool p.s0, .slice A p.l0.length a, .bool p.n1, .bool p.s1, .slice B p.l1.length b, .slice FA L fa] 70)).heap.size = w.heap.size + 1 by simp] at h
  exact h)
 have HR : Hid (BoxL W1 (w.heap.size + 2) [.bool false, .bool false, .slice none 0 0, .bool false, .bool false, .slice none 0 0, .slice none 0 0]) := hid (by
  rw [← hW1]
  have h := (BoxL.new ((w.alloc (.cells #[.bool p.n0, .bool p.s0, .slice A p.l0.length a, .bool p.n1, .bool p.s1, .slice B p.l1.length b, .slice FA L fa] 70)).alloc (.cells #[.bool q.n0, .bool q.s0, .slice C q.l0.length c, .bool q.n1, .bool q.s1, .slice D q.l1.length d, .slice FB M fb] 70)) [.bool false, .bool false, .slice none 0 0, .bool false, .bool false, .slice none 0 0, .slice none 0 0] 70).alloc (.cells #[.func (.func 63) #[] #[], .func (.func 64) #[] #[], .func (.func 65) #[] #[], .func (.func 66) #[] #[]] 122)
  rw [show ((w.alloc (.cells #[.bool p.n0, .bool p.s0, .slice A p.l0.length a, .bool p.n1, .bool p.s1, .slice B p.l1.length b, .slice FA L fa] 70)).alloc (.cells #[.bool q.n0, .bool q.s0, .slice C q.l0.length c, .bool q.n1, .bool q.s1, .slice D q.l1.length d, .slice FB M fb] 70)).heap.size = w.heap.size + 2 by simp] at h
  exact h)
 have HFn : Hid (BoxL W1 (w.heap.size + 3) [.func (.func 63) #[] #[], .func (.func 64) #[] #[], .func (.func 65) #[] #[], .func (.func 66) #[] #[]]) := hid (by
  rw [← hW1]
  have h := BoxL.new (((w.alloc (.cells #[.bool p.n0, .bool p.s0, .slice A p.l0.length a, .bool p.n1, .bool p.s1, .slice B p.l1.length b, .slice FA L fa] 70)).alloc (.cells #[.bool q.n0, .bool q.s0, .slice C q.l0.length c, .bool q.n1, .bool q.s1, .slice D q.l1.length d, .slice FB M fb] 70)).alloc (.cells #[.bool false, .bool false, .slice none 0 0, .bool false, .bool false, .slice none 0 0, .slice none 0 0] 70)) [.func (.func 63) #[] #[], .func (.func 64) #[] #[], .func (.func 65) #[] #[], .func (.func 66) #[] #[]] 122
  rw [show (((w.alloc (.cells #[.bool p.n0, .bool p.s0, .slice A p.l0.length a, .bool p.n1, .bool p.s1, .slice B p.l1.length b, .slice FA L fa] 70)).alloc (.cells #[.bool q.n0, .bool q.s0, .slice C q.l0.length c, .bool q.n1, .bool q.s1, .slice D q.l1.length d, .slice FB M fb] 70)).alloc (.cells #[.bool false, .bool false, .slice none 0 0, .bool false, .bool false, .slice none 0 0, .slice none 0 0] 70)).heap.size = w.heap.size + 3 by simp] at h
  exact h)
 have hsz : w.heap.size + 4 ≤ W1.heap.size := by rw [← hW1]; simp
 have hlk : lk < w.heap.size := hk.lt
 obtain ⟨z, hz⟩ : ∃ r, IvW (0, 0) r := ⟨_, IvW.mk _⟩
 obtain ⟨HZ, HLT, HB, HLK, HBT, HIN⟩ := hid6 hsz hlk hB0 (hk.below hB0) (fun W : World => lbetween_r (w := W) hz (by omega) (by omega) (by omega)) (fun (W : World) (h : Below w.heap.size w W) (E G : Option Addr) (e g K : Nat) (v1 : U64s W (new K) E e z.l0) (v2 : U64s W (new K) G g z.l1) => iin_w (w := W) hz zeroP_n iq gq v1 v2 (u3.below h) (u4.below h) (decide_eq_true h0))
 obtain ⟨HU, HDV, HRN, HCN⟩ := hid4 (fun (W V : World) (h : Below w.heap.size w W) (hg : W.grownBy V (some lk)) => And.intro ((u1.below h).keepN hg y1) (And.intro ((u2.below h).keepN hg y2) (And.intro ((u3.below h).keepN hg y3) ((u4.below h).keepN hg y4)))) (fun (W : World) (v1 : U64s W Z1 A a p.l0) (v2 : U64s W Z2 B b p.l1) (v3 : U64s W Z3 C c q.l0) (v4 : U64s W Z4 D d q.l1) => idiv_w (w := W) ip gp iq gq v1 v2 v3 v4 hne hr) (fun (W : World) (E G : Option Addr) (e g K : Nat) (v1 : U64s W (new K) E e r.l0) (v2 : U64s W (new K) G g r.l1) => lranged_in (w := W) (lk := lk) (n := 0) (f := 0) (F := none) hr gr v1 v2 hin) (fun (W : World) (E G : Option Addr) (e g K : Nat) (h : W.cell? ⟨lk, 6, none⟩ = some (.slice PA pn pc)) (v1 : U64s W (new K) E e r.l0) (v2 : U64s W (new K) G g r.l1) => lconstant_r (w := W) h hd hr gr (by omega) v1 v2)
 generalize ivD P Q = RD at *
 clear hB0 hk hd ip gp iq gq u1 u2 u3 u4 y1 y2 y3 y4 h0 hne hr hin gr hsz hlk hz
 go_enter Tryz.func43, Tryz.ntmps43
 go_upto_region 3 with fail
 clear hW1
 go_cut [11, 12] (fun s11 s12 wx => s11 = .bool true ∧ s12 = .int .i64 0 ∧ Below W1.heap.size W1 wx)
 case first =>
  obtain ⟨⟨x0, x1, x2, x3, x4, x5, x6⟩, _⟩ := HBb.out.all7
  have HBT1 := hid (HBT.out W1.drew)
  first | go_region_with (first
   | (go_at_call 39; with_reducible refine HBT1.out.mono ?_; rintro e wa ⟨E, e1, G, e2, rfl, v1, v2, hc⟩; have hc2 : Below W1.heap.size W1 wa := from_ ((Below.refl W1.heap.size W1).drew) hc; obtain ⟨⟨x0', x1', x2', x3', x4', x5', x6'⟩, _⟩ := (HBb.out.below hc2).all7)
   | (go_at_call 35; with_reducible refine (HIN.out _ (from_ HB.out hc2) _ _ _ _ _ v1 v2).mono ?_; rintro e wb ⟨rfl, hc3⟩)) | fail
  all_goals
   have hf := from_ hc2 hc3
   clear x0 x1 x2 x3 x4 x5 x6 x0' x1' x2' x3' x4' x5' x6' v1 v2 hc hc2 hc3
   go_wp2_with fail
   go_meet
   exact ⟨rfl, rfl, hf⟩
 case rest =>
  obtain ⟨rfl, rfl, hc⟩ := hcut
  replace HB := hid (from_ HB.out hc)
  replace HLK := hid (HLK.out.below hc)
  replace HA := hid (HA.out.below hc)
  replace HBb := hid (HBb.out.below hc)
  replace HR := hid (HR.out.below hc)
  replace HFn := hid (HFn.out.below hc)
  replace HZ := hid (Nat.le_trans HZ.out hc.size)
  clear hc HBT HIN
  have k11 := HLK.out.c 11 _ rfl
  have f11 := HLK.out.f 11 _ rfl
  obtain ⟨W4, hW4⟩ : ∃ W, wc.setCell ⟨lk, 11, none⟩ (.bool true) = W := ⟨_, rfl⟩
  have hg4 : wc.grownBy W4 (some lk) := by rw [← hW4]; exact grown_set _ _ _ _
  have HLK4 : Hid (BoxL W4 lk [g0, g1, g2, g3, g4, g5, .slice PA pn pc, .slice BA bn bc, .bool w0, .bool w1, .bool w2, .bool true, .bool w4, .bool w5]) := hid (by rw [← hW4]; exact HLK.out.set 11 (.bool true) rfl)
  have HA4 : Hid (BoxL W4 w.heap.size [.bool p.n0, .bool p.s0, .slice A p.l0.length a, .bool p.n1, .bool p.s1, .slice B p.l1.length b, .slice FA L fa]) := hid (by rw [← hW4]; exact HA.out.other lk 11 (by have := HLT.out; omega) _)
  have HB4 : Hid (BoxL W4 (w.heap.size + 1) [.bool q.n0, .bool q.s0, .slice C q.l0.length c, .bool q.n1, .bool q.s1, .slice D q.l1.length d, .slice FB M fb]) := hid (by rw [← hW4]; exact HBb.out.other lk 11 (by have := HLT.out; omega) _)
  have HR4 : Hid (BoxL W4 (w.heap.size + 2) [.bool false, .bool false, .slice none 0 0, .bool false, .bool false, .slice none 0 0, .slice none 0 0]) := hid (by rw [← hW4]; exact HR.out.other lk 11 (by have := HLT.out; omega) _)
  have HF4 : Hid (BoxL W4 (w.heap.size + 3) [.func (.func 63) #[] #[], .func (.func 64) #[] #[], .func (.func 65) #[] #[], .func (.func 66) #[] #[]]) := hid (by rw [← hW4]; exact HFn.out.other lk 11 (by have := HLT.out; omega) _)
  obtain ⟨HU4, HG4, HZ4⟩ := hid3 (HU.out wc W4 HB.out hg4) ((grownB HB.out (some lk)).trans hg4) (Nat.le_trans HZ.out hg4.size)
  go_upto_region 9 with fail
  clear hW4 hg4 k11 f11 HLK HA HBb HR HFn HU HB HZ
  obtain ⟨gF, hgF⟩ : ∃ g, w.heap.size + 1 + 1 + 1 = g := ⟨_, rfl⟩
  have HF5 : Hid (BoxL W4 gF [.func (.func 63) #[] #[], .func (.func 64) #[] #[], .func (.func 65) #[] #[], .func (.func 66) #[] #[]]) := hid (by rw [← hgF]; exact HF4.out)
  simp only [hgF]
  have hgL := hid (show w.heap.size + 3 = gF from hgF)
  clear hgF HF4
  go_cut [15, 16] (fun s15 s16 wx => ∃ (g15 : Nat) (rA : Option Addr) (ra : Nat) (rB : Option Addr) (rb : Nat), s15 = .pointer (some ⟨g15, 0, none⟩) ∧ s16 = .int .i64 0 ∧ Hid (Box6 wx g15 (.bool r.n0) (.bool r.s0) (.slice rA r.l0.length ra) (.bool r.n1) (.bool r.s1) (.slice rB r.l1.length rb)) ∧ Hid (U64s wx (new W4.heap.size) rA ra r.l0) ∧ Hid (U64s wx (new W4.heap.size) rB rb r.l1) ∧ Below W4.heap.size W4 wx)
  case first =>
   have hd1 : Below W4.heap.size W4 W4.drew := bdr_
   have hd2 : Below W4.heap.size W4 (W4.alloc (.cells #[.bool false, .bool false, .slice none 0 0, .bool false, .bool false, .slice none 0 0] 29)).drew := ((Below.refl _ W4).alloc (Nat.le_refl _) _).drew
   obtain ⟨HD1, HD2, HE1, HE2⟩ := hid4 (HDV.out W4.drew (HU4.out.1.below hd1) (HU4.out.2.1.below hd1) (HU4.out.2.2.1.below hd1) (HU4.out.2.2.2.below hd1)) (HDV.out _ (HU4.out.1.below hd2) (HU4.out.2.1.below hd2) (HU4.out.2.2.1.below hd2) (HU4.out.2.2.2.below hd2)) hd1 hd2
   have hs0 : (C6 W4 w.heap.size (.bool p.n0) (.bool p.s0) (.slice A p.l0.length a) (.bool p.n1) (.bool p.s1) (.slice B p.l1.length b)) ∧ C6 W4 (w.heap.size + 1) (.bool q.n0) (.bool q.s0) (.slice C q.l0.length c) (.bool q.n1) (.bool q.s1) (.slice D q.l1.length d) :=
    ⟨⟨HA4.out.c 0 _ rfl, HA4.out.c 1 _ rfl, HA4.out.c 2 _ rfl, HA4.out.c 3 _ rfl, HA4.out.c 4 _ rfl, HA4.out.c 5 _ rfl⟩, HB4.out.c 0 _ rfl, HB4.out.c 1 _ rfl, HB4.out.c 2 _ rfl, HB4.out.c 3 _ rfl, HB4.out.c 4 _ rfl, HB4.out.c 5 _ rfl⟩
   have hs := d12_keep hs0 bdr_
   have f0 := HF5.out.c 0 _ rfl
   have k0 : W4.drew.cell? ⟨gF, 0, none⟩ = some (.func (.func 63) #[] #[]) := f0
   have hwA : IntKind.u8.wrap (8 - 8) = 0 := by decide
   have hwB : IntKind.u8.wrap 0 = 0 := by decide
   have f0' := keepC ((Below.refl W4.heap.size W4).alloc (Nat.le_refl _) (.cells #[.bool false, .bool false, .slice none 0 0, .bool false, .bool false, .slice none 0 0] 29)) f0
   have hz4 := HZ4.out
   have hgL2 := hgL.out
   clear hd1 hd2
   first | go_region_held3 (fun w' => w'.cell? ⟨gF, 0, none⟩ = some (.func (.func 63) #[] #[]) ∧ (C6 w' w.heap.size (.bool p.n0) (.bool p.s0) (.slice A p.l0.length a) (.bool p.n1) (.bool p.s1) (.slice B p.l1.length b)) ∧ C6 w' (w.heap.size + 1) (.bool q.n0) (.bool q.s0) (.slice C q.l0.length c) (.bool q.n1) (.bool q.s1) (.slice D q.l1.length d))
    (((refine And.intro ?_ ?_); (focus ((repeat' (first | with_reducible apply v1_al rfl | with_reducible apply v1_st6 rfl)) <;> (first | with_reducible exact k0 | (with_reducible apply v1_dr rfl; (repeat' (with_reducible apply v1_al rfl)); with_reducible exact f0) | omega))); ((repeat' (first | with_reducible apply v12_al rfl | with_reducible apply v12_st6 rfl)) <;> (first | with_reducible exact hs | (with_reducible apply v12_dr rfl; (repeat' (with_reducible apply v12_al rfl)); with_reducible exact hs0) | omega))))
    ((go_at_call 63; first
      | (with_reducible refine HD1.out.mono ?_; rintro e w6 ⟨rA, ra, rB, rb, rfl, v1, v2, hc⟩; have hx := d12_keep hs hc; have kx := keepC hc k0; have hc2 := from_ HE1.out hc; have hal6 := (Below.refl w6.heap.size w6).alloc (Nat.le_refl _) (.cells #[.bool r.n0, .bool r.s0, .slice rA r.l0.length ra, .bool r.n1, .bool r.s1, .slice rB r.l1.length rb] 29); have V1 := hid (v1.below hal6); have V2 := hid (v2.below hal6); have HX := hid (Box6.new w6 (.bool r.n0) (.bool r.s0) (.slice rA r.l0.length ra) (.bool r.n1) (.bool r.s1) (.slice rB r.l1.length rb) 29); have HC := hid (from_ hc2 hal6))
      | (with_reducible refine HD2.out.mono ?_; rintro e w6 ⟨rA, ra, rB, rb, rfl, v1, v2, hc⟩; have hx := d12_keep (d12_keep (d12_keep hs0 bal_) bdr_) hc; have kx := keepC hc (keepC bdr_ f0'); have hc2 := from_ HE2.out hc; have hq6 := (Box6.newB W4 (.bool false) (.bool false) (.slice none 0 0) (.bool false) (.bool false) (.slice none 0 0) 29).below hc; have c0 := hq6.cf; have V1 := hid ((v1.set6 (g := W4.heap.size) (fun (h : _ ≤ W4.heap.size) => by simp at h; omega) (.bool r.n0) (.bool r.s0) (.slice rA r.l0.length ra) (.bool r.n1) (.bool r.s1) (.slice rB r.l1.length rb)).mono (Y := new W4.heap.size) (new_le (by simp))); have V2 := hid ((v2.set6 (g := W4.heap.size) (fun (h : _ ≤ W4.heap.size) => by simp at h; omega) (.bool r.n0) (.bool r.s0) (.slice rA r.l0.length ra) (.bool r.n1) (.bool r.s1) (.slice rB r.l1.length rb)).mono (Y := new W4.heap.size) (new_le (by simp))); have HX := hid (hq6.put (w := W4) hc2 (Nat.le_refl _) (.bool r.n0) (.bool r.s0) (.slice rA r.l0.length ra) (.bool r.n1) (.bool r.s1) (.slice rB r.l1.length rb)).box; have HC := hid (hq6.put (w := W4) hc2 (Nat.le_refl _) (.bool r.n0) (.bool r.s0) (.slice rA r.l0.length ra) (.bool r.n1) (.bool r.s1) (.slice rB r.l1.length rb)).bel); replace hs := hx; replace k0 := kx; clear hx kx)) | fail
   all_goals
    have V := hid (And.intro V1.out (And.intro V2.out (And.intro HX.out HC.out)))
    clear V1 V2 HX HC HD1 HD2 HE1 HE2 hs hs0 f0 f0' k0
    go_wp2_with fail
    go_meet
    exact ⟨_, rA, ra, rB, rb, rfl, rfl, hid V.out.2.2.1, hid (V.out.1.mono (Y := new W4.heap.size) (new_le (by simp))), hid (V.out.2.1.mono (Y := new W4.heap.size) (new_le (by simp))), V.out.2.2.2⟩
  case rest =>
   obtain ⟨g15, rA, ra, rB, rb, rfl, rfl, HX, V1, V2, hc⟩ := hcut
   obtain ⟨HB5, HLK5, HR5, HG5, HZ5, HRG⟩ := hid6 hc (HLK4.out.below hc) (HR4.out.below hc) (HG4.out.trans (grownB hc (some lk))) (Nat.le_trans HZ4.out hc.size) (HRN.out wc rA rB ra rb _ V1.out V2.out)
   clear hc HU4 HA4 HB4 HF5 HDV HRN HLK4 HR4 HG4
   obtain ⟨x0, x1, x2, x3, x4, x5, _, _, _, _, _, _, _⟩ := id HX.out
   obtain ⟨W5, hren⟩ : ∃ W, W = wc := ⟨_, rfl⟩
   subst hren
   go_wp2_with fail
   refine HRG.out.mono ?_
   rintro e w6 ⟨rfl, hc⟩
   have hax := (Below.refl w6.heap.size w6).alloc (Nat.le_refl _) (.cells #[.bool r.n0, .bool r.s0, .slice rA r.l0.length ra, .bool r.n1, .bool r.s1, .slice rB r.l1.length rb, .slice none 0 0] 70)
   have HT : Hid (BoxL (w6.alloc (.cells #[.bool r.n0, .bool r.s0, .slice rA r.l0.length ra, .bool r.n1, .bool r.s1, .slice rB r.l1.length rb, .slice none 0 0] 70)) w6.heap.size [.bool r.n0, .bool r.s0, .slice rA r.l0.length ra, .bool r.n1, .bool r.s1, .slice rB r.l1.length rb, .slice none 0 0]) := hid (BoxL.new w6 [.bool r.n0, .bool r.s0, .slice rA r.l0.length ra, .bool r.n1, .bool r.s1, .slice rB r.l1.length rb, .slice none 0 0] _)
   obtain ⟨HB6, HLK6, HR6, HG6, HZ6, V16⟩ := hid6 (from_ HB5.out (from_ hc hax)) ((HLK5.out.below hc).below hax) ((HR5.out.below hc).below hax) ((HG5.out.trans (grownB hc (some lk))).trans (grownB hax (some lk))) (Nat.le_trans HZ5.out (Nat.le_trans hc.size hax.size)) ((V1.out.below hc).below hax)
   have V26 := hid ((V2.out.below hc).below hax)
   have HCO := hid (HCN.out _ rA rB ra rb _ (HLK6.out.c 6 _ rfl) V16.out V26.out)
   obtain ⟨⟨t0, t1, t2, t3, t4, t5, t6⟩, _⟩ := HT.out.all7
   clear x0 x1 x2 x3 x4 x5 hc hax HX V1 V2 HRG HCN HLK5 HR5 HG5 HZ5 HB5
   go_wp2_with fail
   refine HCO.out.mono ?_
   rintro e w7 ⟨F, f, rfl, hf, hn, hc⟩
   have hgr := grown_set7 w7 (w.heap.size + 2) (.bool r.n0) (.bool r.s0) (.slice rA r.l0.length ra) (.bool r.n1) (.bool r.s1) (.slice rB r.l1.length rb) (.slice F (pn + 1) f)
   have HP := hid ((HR6.out.below hc).put7 (.bool r.n0) (.bool r.s0) (.slice rA r.l0.length ra) (.bool r.n1) (.bool r.s1) (.slice rB r.l1.length rb) (.slice F (pn + 1) f))
   have hsz7 := Nat.le_trans HZ6.out hc.size
   obtain ⟨U1, U2, U3, HN⟩ := hid4 (((V16.out.below hc).keepN hgr (fun h => by have h' : W4.heap.size ≤ w.heap.size + 2 := h; have := HZ4.out; omega)).mono (Y := new w.heap.size) (new_le (by have := HZ4.out; omega))) (((V26.out.below hc).keepN hgr (fun h => by have h' : W4.heap.size ≤ w.heap.size + 2 := h; have := HZ4.out; omega)).mono (Y := new w.heap.size) (new_le (by have := HZ4.out; omega))) ((hf.keepN hn hgr (fun h => by have h' : _ ≤ w.heap.size + 2 := h; have := HZ6.out; omega) (by have := HZ6.out; omega)).mono (Y := new w.heap.size) (new_le (by have := HZ6.out; omega))) (show NewA w.heap.size F from fun b o e => by have h1 := hn b o e; have := HZ6.out; omega)
   have HLK7 : Hid (BoxL _ lk [g0, g1, g2, g3, g4, g5, .slice PA pn pc, .slice BA bn bc, .bool w0, .bool w1, .bool w2, .bool true, .bool w4, .bool w5]) := hid (((((((((HLK6.out.below hc).other (w.heap.size + 2) 0 (by have := HLT.out; omega) (.bool r.n0)).other (w.heap.size + 2) 1 (by have := HLT.out; omega) (.bool r.s0)).other (w.heap.size + 2) 2 (by have := HLT.out; omega) (.slice rA r.l0.length ra)).other (w.heap.size + 2) 3 (by have := HLT.out; omega) (.bool r.n1)).other (w.heap.size + 2) 4 (by have := HLT.out; omega) (.bool r.s1)).other (w.heap.size + 2) 5 (by have := HLT.out; omega) (.slice rB r.l1.length rb)).other (w.heap.size + 2) 6 (by have := HLT.out; omega) (.slice F (pn + 1) f)))
   have HG7 : Hid (w.grownBy _ (some lk)) := hid ((HG6.out.trans (grownB hc (some lk))).andThen hgr (fun j e => by injection e with e; left; omega))
   have HR7 := hid (HR6.out.below hc)
   obtain ⟨⟨r0, r1, r2, r3, r4, r5, r6⟩, q0, q1, q2, q3, q4, q5, q6⟩ := HR7.out.all7
   clear t0 t1 t2 t3 t4 t5 t6 hc hgr hf hn V16 V26 HR6 HLK6 HG6 HCO hsz7
   go_wp2
   refine bodyPost_ret (res_lined2 rfl _ (w.heap.size + 2) rfl HP.out) rfl ?_
   exact ⟨_, _, _, _, _, _, rfl, U1.out, U2.out, U3.out, HN.out, HG7.out, HLK7.out⟩
end Go.Proofs.YtcheajjjdbllfaaGreat
