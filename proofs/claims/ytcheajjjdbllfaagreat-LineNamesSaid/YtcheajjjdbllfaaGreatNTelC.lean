/- Linear forms, the program's: Var and Const. No conditions but bounds on lengths. -/
import Derived.Deep.RegionHeld3
import Derived.Test.YtcheajjjdbllfaaGreatNWhV
import Derived.Test.YtcheajjjdbllfaaGreatNItwI
import Derived.Test.YtcheajjjdbllfaaGreatNRefI
import Derived.Test.YtcheajjjdbllfaaGreatNWhM
import Derived.Test.YtcheajjjdbllfaaGreatNWhJ
import Derived.Test.YtcheajjjdbllfaaGreatNWhC
set_option linter.unusedVariables false
set_option linter.unusedSimpArgs false
set_option maxRecDepth 100000
set_option maxHeartbeats 40000000
namespace Go.Proofs.YtcheajjjdbllfaaGreat
open Go.Lib (hid)
open Go.RowKit
variable {A A0 A1 : Option Addr} {B B' B0 M N a b c d d0 d1 g h i j : Nat} {P : IvP} {W W0 w w' : World} {Z Z1 Z2 : Zone} {a0 a1 a2 a3 a4 a5 b0 b1 b2 b3 b4 b5 v x0 x1 x2 x3 x4 x5 : Value} {e t : TypeId} {q r : Iv} {s : Bool} {x y : Int} {xs : List Value}
def IvsO (w : World) (B0 : Nat) (v : Value) (xs : List Value) (ps : List Iv) : Prop :=
 ∀ j (hj : j < ps.length), ∃ A a B b, (xs[j * 6]? = some (.bool ps[j].n0) ∧ xs[j * 6 + 1]? = some (.bool ps[j].s0) ∧ xs[j * 6 + 2]? = some (.slice A ps[j].l0.length a) ∧ xs[j * 6 + 3]? = some (.bool ps[j].n1) ∧ xs[j * 6 + 4]? = some (.bool ps[j].s1) ∧ xs[j * 6 + 5]? = some (.slice B ps[j].l1.length b)) ∧ U64s w (newX B0 v) A a ps[j].l0 ∧ U64s w (newX B0 v) B b ps[j].l1
theorem IvsO.nil (w : World) (B0 : Nat) (v : Value) (xs : List Value) : IvsO w B0 v xs [] := fun j hj => absurd hj (by simp)
theorem IvsO.below {ps : List Iv} (h : IvsO w B0 v xs ps) (hb : Below w.heap.size w w') : IvsO w' B0 v xs ps := fun j hj => by
 obtain ⟨A, a, B, b, hc, h0, h1⟩ := h j hj
 exact ⟨A, a, B, b, hc, h0.below hb, h1.below hb⟩
theorem IvsO.snoc {v' : Value} {ps : List Iv} {p : Iv} {B : Option Addr} (h : IvsO w B0 v xs ps) (hl : xs.length = ps.length * 6) (hg : w.grownBy w' v.ownBlock) (hf : Fresh w v v') (hu : U64s w (newX B0 v) A a p.l0) (hv : U64s w (newX B0 v) B b p.l1) :
  IvsO w' B0 v' (xs ++ [.bool p.n0, .bool p.s0, .slice A p.l0.length a, .bool p.n1, .bool p.s1, .slice B p.l1.length b]) (ps ++ [p]) := fun j hj => by
 rw [List.length_append, List.length_singleton] at hj
 by_cases hj2 : j < ps.length
 · obtain ⟨A', a', B', b', ⟨h0, h1, h2, h3, h4, h5⟩, u0, u1⟩ := h j hj2
   refine ⟨A', a', B', b', ?_, ?_, ?_⟩
   · rw [List.getElem_append_left hj2, List.getElem?_append_left (by omega), List.getElem?_append_left (by omega), List.getElem?_append_left (by omega), List.getElem?_append_left (by omega), List.getElem?_append_left (by omega), List.getElem?_append_left (by omega)]
     exact ⟨h0, h1, h2, h3, h4, h5⟩
   · rw [List.getElem_append_left hj2]; exact u0.grow hg hf
   · rw [List.getElem_append_left hj2]; exact u1.grow hg hf
 · obtain rfl : j = ps.length := by omega
   have e : (ps ++ [p])[ps.length]'(by simp) = p := by rw [List.getElem_append_right (by omega)]; simp
   refine ⟨A, a, B, b, ?_, ?_, ?_⟩
   · rw [e, List.getElem?_append_right (by omega), List.getElem?_append_right (by omega), List.getElem?_append_right (by omega), List.getElem?_append_right (by omega), List.getElem?_append_right (by omega), List.getElem?_append_right (by omega), hl, Nat.sub_self, show ps.length * 6 + 1 - ps.length * 6 = 1 by omega, show ps.length * 6 + 2 - ps.length * 6 = 2 by omega, show ps.length * 6 + 3 - ps.length * 6 = 3 by omega, show ps.length * 6 + 4 - ps.length * 6 = 4 by omega, show ps.length * 6 + 5 - ps.length * 6 = 5 by omega]
     exact ⟨rfl, rfl, rfl, rfl, rfl, rfl⟩
   · rw [e]; exact hu.grow hg hf
   · rw [e]; exact hv.grow hg hf
theorem IvsO.fin {ps : List Iv} (h : IvsO w B0 v xs ps) (hown : w.ownsRow B e 6 v ps.length xs) : ∃ A c, v = .slice A ps.length c ∧ IvsAt w (new B0) A c ps ∧ ∀ b o, A = some ⟨b, o, none⟩ → B ≤ b := by
 have hcase := hown.2
 rcases hcase with ⟨e1, h0⟩ | ⟨g, cap, cur, e1, hB, hh, hcap, hm, _⟩
 · have hq : ps = [] := List.eq_nil_of_length_eq_zero h0
   subst hq
   exact ⟨none, 0, e1, IvsAt.nil _ _, fun b o h => by cases h⟩
 · subst e1
   refine ⟨some ⟨g, 0, none⟩, cap, rfl, ⟨hcap, by simpa [maxLen] using hm, fun h0 => ⟨g, 0, rfl, (hown.lt g rfl).2, fun j hj => ?_⟩⟩, fun b o h => by injection h with h; injection h with h1 h2; omega⟩
   obtain ⟨A, a, B, b, ⟨c0, c1, c2, c3, c4, c5⟩, u0, u1⟩ := h j hj
   refine ⟨A, a, B, b, ⟨?_, ?_, ?_, ?_, ?_, ?_⟩, u0.mono (newX_le _ _), u1.mono (newX_le _ _)⟩
   · rw [Nat.zero_add, hown.cellAt (j * 6) (by omega)]; exact c0
   · rw [Nat.zero_add, hown.cellAt (j * 6 + 1) (by omega)]; exact c1
   · rw [Nat.zero_add, hown.cellAt (j * 6 + 2) (by omega)]; exact c2
   · rw [Nat.zero_add, hown.cellAt (j * 6 + 3) (by omega)]; exact c3
   · rw [Nat.zero_add, hown.cellAt (j * 6 + 4) (by omega)]; exact c4
   · rw [Nat.zero_add, hown.cellAt (j * 6 + 5) (by omega)]; exact c5
def SD (k : Nat) : Int × Int := if k = 0 then (-bigZ, -1) else (1, bigZ)
def partK (P : Int × Int) (k : Nat) : List (Int × Int) := (if 1 ≤ k ∧ P.1 ≤ -1 then [(P.1, min P.2 (-1))] else []) ++ (if 2 ≤ k ∧ 1 ≤ P.2 then [(max P.1 1, P.2)] else [])
theorem partK_zero (P : Int × Int) : partK P 0 = [] := by simp [partK]
theorem partK_two (P : Int × Int) : partK P 2 = partsP P := by simp [partK, partsP]
theorem big_one : (1 : Int) < bigZ := by
 have := wN_le (show 1 ≤ 64 by omega)
 have e : wN 1 = 18446744073709551616 := rfl
 omega
theorem partK_step {k : Nat} {P : Int × Int} (h : IvN N P.1 P.2) (hN : N ≤ 60) (hk : k < 2) {g : Bool} (hg : decide (max P.1 (SD k).1 ≤ min P.2 (SD k).2) = g) : partK P (k + 1) = if g = true then partK P k ++ [(max P.1 (SD k).1, min P.2 (SD k).2)] else partK P k := by
 obtain ⟨a1, a2, a3, a4, a5⟩ := h
 have h3 := big_one
 have r1 := a1.range (by omega)
 have r2 := a2.range (by omega)
 obtain rfl | rfl : k = 0 ∨ k = 1 := by omega
 · unfold SD partK at *
   simp only [if_true] at hg ⊢
   have e : max P.1 (-bigZ) = P.1 := by omega
   rw [e] at hg ⊢
   subst hg
   by_cases h1 : P.1 ≤ -1
   · rw [if_pos ⟨by omega, h1⟩, decide_eq_true (by omega)]; simp
   · rw [if_neg (by omega), decide_eq_false (by omega)]; simp
 · unfold SD partK at *
   simp only [show ¬ (1 = 0) by omega, if_false] at hg ⊢
   have e : min P.2 bigZ = P.2 := by omega
   rw [e] at hg ⊢
   subst hg
   by_cases h2 : 1 ≤ P.2
   · rw [if_pos (show 2 ≤ 1 + 1 ∧ 1 ≤ P.2 by omega), decide_eq_true (by omega)]; simp
   · rw [if_neg (show ¬ (2 ≤ 1 + 1 ∧ 1 ≤ P.2) by omega), decide_eq_false (by omega)]; simp
theorem ivn_side (hN : 1 ≤ N) (k : Nat) : IvN N (SD k).1 (SD k).2 := by
 have h3 := big_one
 have h4 : (1 : Int) < wN N := by
  have := wN_mono hN
  have e : wN 1 = 18446744073709551616 := rfl
  omega
 unfold SD
 split
 · exact ⟨.inr (.inl rfl), .inr (.inr (by omega)), by dsimp only; omega, by dsimp only; omega, by dsimp only; omega⟩
 · exact ⟨.inr (.inr (by omega)), .inl rfl, by dsimp only; omega, by dsimp only; omega, by dsimp only; omega⟩
theorem side_w (k : Nat) : IvW (SD k) (ivOf (SD k).1 (SD k).2) := IvW.mk _
theorem side_lo : (ivOf (SD 0).1 (SD 0).2).n0 = true ∧ (ivOf (SD 0).1 (SD 0).2).s0 = false ∧ (ivOf (SD 0).1 (SD 0).2).l0 = [] ∧ (ivOf (SD 0).1 (SD 0).2).n1 = false ∧ Nm (-1) (ivOf (SD 0).1 (SD 0).2).s1 (ivOf (SD 0).1 (SD 0).2).l1 := by
 have h3 := big_one
 rw [show SD 0 = (-bigZ, -1) from rfl]
 refine ⟨?_, ?_, ?_, ?_, ?_⟩
 · exact decide_eq_true (p := -bigZ = -bigZ) rfl
 · exact decide_eq_false (p := -bigZ < -bigZ ∧ -bigZ < 0) (by omega)
 · exact if_neg (c := -bigZ < -bigZ ∧ -bigZ < bigZ) (t := limbs (-bigZ).natAbs) (by omega)
 · exact decide_eq_false (p := -1 = bigZ) (by omega)
 · exact nm_e (n := -1) ⟨by omega, by omega⟩
theorem side_hi : (ivOf (SD 1).1 (SD 1).2).n0 = false ∧ Nm 1 (ivOf (SD 1).1 (SD 1).2).s0 (ivOf (SD 1).1 (SD 1).2).l0 ∧ (ivOf (SD 1).1 (SD 1).2).n1 = true ∧ (ivOf (SD 1).1 (SD 1).2).s1 = false ∧ (ivOf (SD 1).1 (SD 1).2).l1 = [] := by
 have h3 := big_one
 rw [show SD 1 = (1, bigZ) from rfl]
 refine ⟨?_, ?_, ?_, ?_, ?_⟩
 · exact decide_eq_false (p := 1 = -bigZ) (by omega)
 · exact nm_e (n := 1) ⟨by omega, by omega⟩
 · exact decide_eq_true (p := bigZ = bigZ) rfl
 · exact decide_eq_false (p := -bigZ < bigZ ∧ bigZ < 0) (by omega)
 · exact if_neg (c := -bigZ < bigZ ∧ bigZ < bigZ) (t := limbs bigZ.natAbs) (by omega)
theorem six_news : ∀ j u, [a0, a1, a2, a3, a4, a5][j]? = some u → (W.alloc (.cells #[a0, a1, a2, a3, a4, a5] t)).cell? ⟨W.heap.size, j, none⟩ = some u := by
 intro j u h
 have hj : j < 6 := by
  have h2 := (List.getElem?_eq_some_iff.1 h).1
  have h3 : ([a0, a1, a2, a3, a4, a5] : List Value).length = 6 := rfl
  omega
 refine cell_newest rfl ?_
 rw [← h]
 exact List.getElem?_toArray
theorem imeet_w {Z3 Z4 : Zone} {p : Iv} {Q : IvP} {B C D : Option Addr} (hp : IvW P p) (gp : IvN N P.1 P.2) (hN : N ≤ 60) (hq : IvW Q q) (gq : IvN M Q.1 Q.2) (hM : M ≤ 60) (hr : IvW (max P.1 Q.1, min P.2 Q.2) r) {g : Bool} (hg : decide (max P.1 Q.1 ≤ min P.2 Q.2) = g) (u1 : U64s w Z1 A a p.l0) (u2 : U64s w Z2 B b p.l1) (u3 : U64s w Z3 C c q.l0) (u4 : U64s w Z4 D d q.l1) :
  Calls Tryz.prog 46 #[.agg #[.bool p.n0, .bool p.s0, .slice A p.l0.length a, .bool p.n1, .bool p.s1, .slice B p.l1.length b], .agg #[.bool q.n0, .bool q.s0, .slice C q.l0.length c, .bool q.n1, .bool q.s1, .slice D q.l1.length d]] w fun e w' => (g = true → ∃ rA ra rB rb, e = .returned (.tuple #[.agg #[.bool r.n0, .bool r.s0, .slice rA r.l0.length ra, .bool r.n1, .bool r.s1, .slice rB r.l1.length rb], .bool true]) ∧ U64s w' (new w.heap.size) rA ra r.l0 ∧ U64s w' (new w.heap.size) rB rb r.l1) ∧ (g = false → e = .returned (.tuple #[.agg #[.bool false, .bool false, .slice none 0 0, .bool false, .bool false, .slice none 0 0], .bool false])) ∧ Below w.heap.size w w' := by
 have kp := hp.k gp (by omega)
 have kq := hq.k gq (by omega)
 exact imeet_p u1 u2 u3 u4 kp.ok kq.ok (by have := kp.q0; omega) (by have := kp.q1; omega) (by have := kq.q0; omega) (by have := kq.q1; omega) (by rw [kp.lo, kq.lo]) (by rw [kp.hi, kq.hi]) hr.1 hr.2 hg
theorem iparted_w {p : Iv} {B : Option Addr} (hp : IvW P p) (gp : IvN N P.1 P.2) (hN : N ≤ 60) (u0 : U64s w Z1 A a p.l0) (u1 : U64s w Z2 B b p.l1) :
  Calls Tryz.prog 90 #[.agg #[.bool p.n0, .bool p.s0, .slice A p.l0.length a, .bool p.n1, .bool p.s1, .slice B p.l1.length b]] w fun e w' => ∃ Av cv, e = .returned (.slice Av (partsP P).length cv) ∧ IvsAt w' (new w.heap.size) Av cv (fmOf (partsP P)) ∧ (∀ b o, Av = some ⟨b, o, none⟩ → w.heap.size ≤ b) ∧ Below w.heap.size w w' := by
 have hB0 : Below w.heap.size w (w.alloc (.cells #[.bool p.n0, .bool p.s0, .slice A p.l0.length a, .bool p.n1, .bool p.s1, .slice B p.l1.length b] 29)) := (Below.refl _ _).alloc (Nat.le_refl _) _
 have HA := hid (Box6.new w (.bool p.n0) (.bool p.s0) (.slice A p.l0.length a) (.bool p.n1) (.bool p.s1) (.slice B p.l1.length b) 29)
 obtain ⟨sm, lm, nm, sw0⟩ : ∃ sm lm, Nm (-1) sm lm ∧ IvW (SD 0) ⟨true, false, [], false, sm, lm⟩ := by
  obtain ⟨h0, h1, h2, h3, h4⟩ := side_lo
  refine ⟨_, _, h4, ?_⟩
  have h := side_w 0
  unfold IvW at h ⊢
  rwa [h0, h1, h2, h3] at h
 obtain ⟨s1, l1, n1, sw1⟩ : ∃ s1 l1, Nm 1 s1 l1 ∧ IvW (SD 1) ⟨false, s1, l1, true, false, []⟩ := by
  obtain ⟨h0, h1, h2, h3, h4⟩ := side_hi
  refine ⟨_, _, h1, ?_⟩
  have h := side_w 1
  unfold IvW at h ⊢
  rwa [h0, h2, h3, h4] at h
 have q1 : l1.length ≤ 1 := by rw [n1.2]; exact len_limbs_le (by decide)
 have qm : lm.length ≤ 1 := by rw [nm.2]; exact len_limbs_le (by decide)
 obtain ⟨Hp, HG, SW0, SW1, OF, NG⟩ := hid6 hp gp sw0 sw1 (fun (W : World) => wof_p (w := W) n1 (by omega)) (fun (W : World) (C : Option Addr) (c : Nat) (Z : Zone) (u : U64s W Z C c l1) => wneg_n n1 nm rfl (by omega) u)
 obtain ⟨AT1, AT2, HB⟩ := hid3 (fun (W : World) (C : Option Addr) (c : Nat) (Z : Zone) (u : U64s W Z C c lm) => iat_p (s := sm) u (by omega)) (fun (W : World) (C : Option Addr) (c : Nat) (Z : Zone) (u : U64s W Z C c l1) => iat_p (s := s1) u (by omega)) hB0
 clear hp gp sw0 sw1 n1 nm hB0
 go_enter Tryz.func90, Tryz.ntmps90
 go_wp2_with fail
 refine (OF.out _).mono ?_
 rintro e w1 ⟨C1, c1, rfl, uo, hc⟩
 go_upto_region 2 with fail
 have hax : Below w1.heap.size w1 (w1.alloc (.cells #[.bool s1, .slice C1 l1.length c1] 25)) := (Below.refl _ _).alloc (Nat.le_refl _) _
 have BO := hid (Box.new w1 (.bool s1) (.slice C1 l1.length c1) 25)
 obtain ⟨gO, hgO⟩ : ∃ gO, gO = w1.heap.size := ⟨_, rfl⟩
 rw [← hgO] at BO
 have UO := hid (uo.below hax)
 replace HA := hid ((HA.out.below hc).below hax)
 replace HB := hid (from_ (from_ HB.out hc) hax)
 clear hc hax uo OF
 generalize hW1 : w1.alloc (.cells #[.bool s1, .slice C1 l1.length c1] 25) = W1 at *
 try simp only [← hgO]
 clear hW1 hgO
 obtain ⟨x0, x1, _, _, _⟩ := id BO.out
 go_wp2_with fail
 refine (NG.out _ _ _ _ UO.out).mono ?_
 rintro e w2 ⟨D1, d1, rfl, um, hc⟩
 have hax : Below w2.heap.size w2 (w2.alloc (.cells #[.bool sm, .slice D1 lm.length d1] 25)) := (Below.refl _ _).alloc (Nat.le_refl _) _
 have BM := hid (Box.new w2 (.bool sm) (.slice D1 lm.length d1) 25)
 obtain ⟨gM, hgM⟩ : ∃ gM, gM = w2.heap.size := ⟨_, rfl⟩
 rw [← hgM] at BM
 have UM := hid (um.below hax)
 replace UO := hid ((UO.out.below hc).below hax)
 replace BO := hid ((BO.out.below hc).below hax)
 replace HA := hid ((HA.out.below hc).below hax)
 replace HB := hid (from_ (from_ HB.out hc) hax)
 clear hc hax um NG x0 x1
 generalize hW2 : w2.alloc (.cells #[.bool sm, .slice D1 lm.length d1] 25) = W2 at *
 have hs := And.intro (And.intro BM.out.c0 BM.out.c1) (And.intro BO.out.c0 BO.out.c1)
 replace hs := c4_keep hs bdr_
 have Hc := hid (Below.refl W2.heap.size W2).drew
 go_upto_region 3 with fail
 try simp only [hW2]
 try simp only [← hgM]
 clear hW2 hgM
 first | go_region_held3 (fun w' => (w'.cell? ⟨gM, 0, none⟩ = some (.bool sm) ∧ w'.cell? ⟨gM, 1, none⟩ = some (.slice D1 lm.length d1)) ∧ w'.cell? ⟨gO, 0, none⟩ = some (.bool s1) ∧ w'.cell? ⟨gO, 1, none⟩ = some (.slice C1 l1.length c1))
  (first | with_reducible exact hs | (with_reducible apply c4_al rfl; with_reducible exact hs) | (with_reducible apply c4_dr rfl; with_reducible exact hs))
  (((first
    | (go_at_call 108; with_reducible refine (inone_p).mono ?_; rintro e w3 ⟨rfl, hc2⟩)
    | (go_at_call 10; with_reducible refine (AT1.out _ _ _ _ (UM.out.below Hc.out)).mono ?_; rintro e w3 ⟨Em, em, rfl, vm, hc2⟩)
    | (go_at_call 10; with_reducible refine (AT2.out _ _ _ _ (UO.out.below Hc.out)).mono ?_; rintro e w3 ⟨Eo, eo, rfl, vo, hc2⟩)); (try replace vm := vm.below hc2); (try replace vo := vo.below hc2); replace hs := c4_keep hs hc2; replace Hc := hid (from_ Hc.out hc2); clear hc2)) | fail
 all_goals
  have hal := (Below.refl w3.heap.size w3).alloc (Nat.le_refl _) (.cells #[.bool true, .bool false, .slice none 0 0, .bool false, .bool sm, .slice Em lm.length em, .bool false, .bool s1, .slice Eo l1.length eo, .bool true, .bool false, .slice none 0 0] 29)
  have HSIDE : Hid (∀ k, k < 2 → ∃ (sd : Iv) (F0 : Option Addr) (f0 : Nat) (F1 : Option Addr) (f1 : Nat), ((w3.alloc (.cells #[.bool true, .bool false, .slice none 0 0, .bool false, .bool sm, .slice Em lm.length em, .bool false, .bool s1, .slice Eo l1.length eo, .bool true, .bool false, .slice none 0 0] 29)).cell? ⟨w3.heap.size, k * 6, none⟩ = some (.bool sd.n0) ∧ (w3.alloc (.cells #[.bool true, .bool false, .slice none 0 0, .bool false, .bool sm, .slice Em lm.length em, .bool false, .bool s1, .slice Eo l1.length eo, .bool true, .bool false, .slice none 0 0] 29)).cell? ⟨w3.heap.size, k * 6 + 1, none⟩ = some (.bool sd.s0) ∧ (w3.alloc (.cells #[.bool true, .bool false, .slice none 0 0, .bool false, .bool sm, .slice Em lm.length em, .bool false, .bool s1, .slice Eo l1.length eo, .bool true, .bool false, .slice none 0 0] 29)).cell? ⟨w3.heap.size, k * 6 + 2, none⟩ = some (.slice F0 sd.l0.length f0) ∧ (w3.alloc (.cells #[.bool true, .bool false, .slice none 0 0, .bool false, .bool sm, .slice Em lm.length em, .bool false, .bool s1, .slice Eo l1.length eo, .bool true, .bool false, .slice none 0 0] 29)).cell? ⟨w3.heap.size, k * 6 + 3, none⟩ = some (.bool sd.n1) ∧ (w3.alloc (.cells #[.bool true, .bool false, .slice none 0 0, .bool false, .bool sm, .slice Em lm.length em, .bool false, .bool s1, .slice Eo l1.length eo, .bool true, .bool false, .slice none 0 0] 29)).cell? ⟨w3.heap.size, k * 6 + 4, none⟩ = some (.bool sd.s1) ∧ (w3.alloc (.cells #[.bool true, .bool false, .slice none 0 0, .bool false, .bool sm, .slice Em lm.length em, .bool false, .bool s1, .slice Eo l1.length eo, .bool true, .bool false, .slice none 0 0] 29)).cell? ⟨w3.heap.size, k * 6 + 5, none⟩ = some (.slice F1 sd.l1.length f1)) ∧ U64s (w3.alloc (.cells #[.bool true, .bool false, .slice none 0 0, .bool false, .bool sm, .slice Em lm.length em, .bool false, .bool s1, .slice Eo l1.length eo, .bool true, .bool false, .slice none 0 0] 29)) old F0 f0 sd.l0 ∧ U64s (w3.alloc (.cells #[.bool true, .bool false, .slice none 0 0, .bool false, .bool sm, .slice Em lm.length em, .bool false, .bool s1, .slice Eo l1.length eo, .bool true, .bool false, .slice none 0 0] 29)) old F1 f1 sd.l1 ∧ IvW (SD k) sd) := fun k hk => by
   obtain rfl | rfl : k = 0 ∨ k = 1 := by omega
   · exact ⟨_, none, 0, Em, em, ⟨cell_newest rfl rfl, cell_newest rfl rfl, cell_newest rfl rfl, cell_newest rfl rfl, cell_newest rfl rfl, cell_newest rfl rfl⟩, U64s.nil _ _, (vm.below hal).mono (le_old _), SW0.out⟩
   · exact ⟨_, Eo, eo, none, 0, ⟨cell_newest rfl rfl, cell_newest rfl rfl, cell_newest rfl rfl, cell_newest rfl rfl, cell_newest rfl rfl, cell_newest rfl rfl⟩, (vo.below hal).mono (le_old _), U64s.nil _ _, SW1.out⟩
  obtain ⟨g3, hg3⟩ : ∃ g3, g3 = w3.heap.size := ⟨_, rfl⟩
  rw [← hg3] at HSIDE
  have HW3 := hid (from_ (from_ HB.out Hc.out) hal)
  replace HA := hid ((HA.out.below Hc.out).below hal)
  clear hs vm vo hal BO BM UO UM SW0 SW1 AT1 AT2 Hc HB
  generalize hW3 : w3.alloc (.cells #[.bool true, .bool false, .slice none 0 0, .bool false, .bool sm, .slice Em lm.length em, .bool false, .bool s1, .slice Eo l1.length eo, .bool true, .bool false, .slice none 0 0] 29) = W3 at *
  go_wp2
  try simp only [hW3]
  try simp only [← hg3]
  clear hW3 hg3
  go_loopw [2, 26] (fun v i wr => ∃ (vr : Value) (k : Nat) (xs : List Value) (qs : List Iv), v = vr ∧ k ≤ 2 ∧ i = .int .i64 (k : Int) ∧ qs = fmOf (partK P k) ∧ qs.length ≤ k ∧ wr.ownsRow W3.heap.size 29 6 vr qs.length xs ∧ IvsO wr w.heap.size vr xs qs ∧ Below W3.heap.size W3 wr) (fun _ i _ => 2 - (intOf i).toNat)
  case atStart => exact ⟨_, 0, [], [], rfl, Nat.zero_le _, rfl, by rw [partK_zero]; rfl, Nat.zero_le _, World.ownsRow_nil _ _ _ _, IvsO.nil _ _ _ _, Below.refl _ _⟩
  case round =>
   obtain ⟨v, k, xs, qs, hvr, hk, rfl, hqs, hql, hown, hiv, hbel⟩ := hrel
   have hvr2 := hvr.symm
   subst hvr2
   by_cases hlt : k < 2
   · obtain ⟨sd, F0, f0, F1, f1, c6, us0, us1, hsd⟩ := HSIDE.out k hlt
     obtain ⟨g, hg⟩ : ∃ g, decide (max P.1 (SD k).1 ≤ min P.2 (SD k).2) = g := ⟨_, rfl⟩
     obtain ⟨r, hr⟩ : ∃ r, r = ivOf (max P.1 (SD k).1) (min P.2 (SD k).2) := ⟨_, rfl⟩
     have hr2 : IvW (max P.1 (SD k).1, min P.2 (SD k).2) r := by rw [hr]; exact IvW.mk _
     have hst := partK_step HG.out hN hlt hg
     have hW1 := from_ HW3.out hbel
     have MT := hid (fun (W : World) (h : Below wr.heap.size wr W) => imeet_w (w := W) Hp.out HG.out hN hsd (ivn_side (N := 60) (by omega) k) (by omega) hr2 hg ((u0.below hW1).below h) ((u1.below hW1).below h) ((us0.below hbel).below h) ((us1.below hbel).below h))
     have hcc := six_keep c6 hbel
     obtain ⟨x0, x1, x2, x3, x4, x5⟩ := hcc
     have HAr := HA.out.below hbel
     obtain ⟨y0, y1, y2, y3, y4, y5, _, _, _, _, _, _, hltA⟩ := id HAr
     have hi3 : (k : Int) < 2 := by omega
     have hbg : ∀ b, v.ownBlock = some b → W3.heap.size ≤ b ∧ b < wr.heap.size := fun b hb => hown.lt b hb
     obtain ⟨Hbg, HO, Hbel, Hqs, Hql, Hiv⟩ := hid6 hbg hown hbel hqs hql hiv
     obtain ⟨Hst, Hr⟩ := hid2 hst hr
     have hax : Below wr.heap.size wr (wr.alloc (.cells #[.bool sd.n0, .bool sd.s0, .slice F0 sd.l0.length f0, .bool sd.n1, .bool sd.s1, .slice F1 sd.l1.length f1] 29)) := (Below.refl _ _).alloc (Nat.le_refl _) _
     have Hax := hid hax
     obtain ⟨i0, hi, hz0, hz1, hz2⟩ := info_parts infoIv
     clear hbg hown hbel hqs hql hiv hst hr hr2 hax hW1 c6 us0 us1 hsd HAr hg
     go_wp2_with fail
     refine (MT.out _ Hax.out).mono ?_
     rintro e w2 ⟨hT, hF, hc⟩
     have Hc2 := hid (from_ (from_ (Below.refl _ _) Hax.out) hc)
     clear x0 x1 x2 x3 x4 x5 y0 y1 y2 y3 y4 y5 MT
     cases g with
     | false =>
       obtain rfl := hF rfl
       obtain ⟨Hb2, HO2, HI2, Hst2⟩ := hid4 (from_ (from_ Hbel.out Hc2.out) ((Below.refl w2.heap.size w2).alloc (Nat.le_refl _) (.cells #[.bool false, .bool false, .slice none 0 0, .bool false, .bool false, .slice none 0 0] 29))) ((own_below HO.out Hc2.out).alloc (.cells #[.bool false, .bool false, .slice none 0 0, .bool false, .bool false, .slice none 0 0] 29)) ((Hiv.out.below Hc2.out).below ((Below.refl w2.heap.size w2).alloc (Nat.le_refl _) (.cells #[.bool false, .bool false, .slice none 0 0, .bool false, .bool false, .slice none 0 0] 29))) (show qs = fmOf (partK P (k + 1)) by rw [Hst.out]; simpa using Hqs.out)
       clear hT hF hc
       go_wp2
       go_roundw
       case rel => exact ⟨_, k + 1, xs, qs, rfl, by omega, by go_num, Hst2.out, by have := Hql.out; omega, HO2.out, HI2.out, Hb2.out⟩
       case measure => simp [intOf]; omega
     | true =>
       obtain ⟨rA, ra, rB, rb, rfl, v0, v1⟩ := hT rfl
       obtain ⟨Hv0, Hv1⟩ := hid2 v0 v1
       clear hT hF hc v0 v1
       go_upto_region 8 with fail
       have ha8 : Below w2.heap.size w2 (w2.alloc (.cells #[.bool r.n0, .bool r.s0, .slice rA r.l0.length ra, .bool r.n1, .bool r.s1, .slice rB r.l1.length rb] 29)) := (Below.refl _ _).alloc (Nat.le_refl _) _
       have B8 := Box6.new w2 (.bool r.n0) (.bool r.s0) (.slice rA r.l0.length ra) (.bool r.n1) (.bool r.s1) (.slice rB r.l1.length rb) 29
       obtain ⟨g8, hg8⟩ : ∃ g8, g8 = w2.heap.size := ⟨_, rfl⟩
       rw [← hg8] at B8
       try simp only [← hg8]
       have Hb8 := hid (from_ Hc2.out ha8)
       have hsz8 : w.heap.size ≤ (wr.alloc (.cells #[.bool sd.n0, .bool sd.s0, .slice F0 sd.l0.length f0, .bool sd.n1, .bool sd.s1, .slice F1 sd.l1.length f1] 29)).heap.size := Nat.le_trans (from_ HW3.out Hbel.out).size Hax.out.size
       obtain ⟨Hw0, Hw1⟩ := hid2 ((Hv0.out.toX (B := w.heap.size) (v := v) (fun b hb => Nat.lt_of_lt_of_le (Hbg.out b hb).2 Hax.out.size) hsz8).below ha8) ((Hv1.out.toX (B := w.heap.size) (v := v) (fun b hb => Nat.lt_of_lt_of_le (Hbg.out b hb).2 Hax.out.size) hsz8).below ha8)
       clear hg8 ha8
       generalize w2.alloc (.cells #[.bool r.n0, .bool r.s0, .slice rA r.l0.length ra, .bool r.n1, .bool r.s1, .slice rB r.l1.length rb] 29) = W8 at *
       obtain ⟨x0, x1, x2, x3, x4, x5, _, _, _, _, _, _, _⟩ := id B8
       have hla := Hql.out
       go_wp2_with (at_builtin; go_loud (refine wpList_appF _ rfl _ _ 30 rfl W3.heap.size 29 i0 (.agg #[.bool false, .bool false, .slice none 0 0, .bool false, .bool false, .slice none 0 0]) 6 80 Tryz.underlying30 hi hz0 hz1 hz2 rfl (by omega) (by omega) _ _ _ rfl ((own_below HO.out Hb8.out).alloc _) W8.heap.size [.bool r.n0, .bool r.s0, .slice rA r.l0.length ra, .bool r.n1, .bool r.s1, .slice rB r.l1.length rb] rfl rfl six_news (by simp [Value.oneCell']) (by omega) (by have h1 := Hbel.out.size; have h2 := Hb8.out.size; simp; omega) ?_); intro v' wb hown' hgrow hfresh)
       have hal := (Below.refl W8.heap.size W8).alloc (Nat.le_refl _) (.cells #[.bool r.n0, .bool r.s0, .slice rA r.l0.length ra, .bool r.n1, .bool r.s1, .slice rB r.l1.length rb] 29)
       have hgB := (from_ (from_ Hbel.out Hb8.out) hal).grown hgrow (from_ (from_ Hbel.out Hb8.out) hal).size (fun b hb => (Hbg.out b hb).1)
       obtain ⟨hiv', Hst2, HO', HgB⟩ := hid4 (IvsO.snoc (p := r) ((Hiv.out.below Hb8.out).below hal) HO.out.1 hgrow hfresh (Hw0.out.below hal) (Hw1.out.below hal)) (show qs ++ [r] = fmOf (partK P (k + 1)) by rw [Hst.out]; (try simp only [if_true]); rw [Hqs.out, Hr.out]; simp [fmOf]) hown' hgB
       clear hgrow hfresh hal hown' hgB x0 x1 x2 x3 x4 x5
       go_wp2
       go_roundw
       case rel => exact ⟨_, k + 1, _, qs ++ [r], rfl, by omega, by go_num, Hst2.out, by rw [List.length_append, List.length_singleton]; omega, by rw [List.length_append, List.length_singleton]; exact HO'.out, hiv'.out, HgB.out⟩
       case measure => simp [intOf]; omega
   · obtain rfl : k = 2 := by omega
     obtain ⟨A9, a9, rfl, hX, hXb⟩ := hiv.fin hown
     rw [partK_two] at hqs
     subst hqs
     rw [fmOf_len] at *
     have HX := hid hX
     have hw3 := HW3.out.size
     obtain ⟨HXb, HE⟩ := hid2 (fun b o h => Nat.le_trans hw3 (hXb b o h)) (from_ HW3.out hbel)
     clear hown hiv hbel hX hXb hw3
     go_wp2
     go_ret
     exact ⟨A9, a9, rfl, HX.out, HXb.out, HE.out⟩
def NoU (w : World) (g : Nat) : Prop := ∀ o n, w.cell? ⟨g, o, none⟩ ≠ some (.int .u64 n)
structure Bx3 (w : World) (g : Nat) : Prop where
 box : Box3 w g (.int .i64 0) (.bool false) (.slice none 0 0)
 no : NoU w g
theorem NoU.below (h : NoU w g) (hl : g < w.heap.size) (hb : Below w.heap.size w w') : NoU w' g := fun o n e => h o n ((World.cell?_of_block (w := w) (a := ⟨g, o, none⟩) (hb.block g hl)).symm.trans e)
theorem NoU.new (w : World) (x : Int) (s : Bool) (A : Option Addr) (n c : Nat) (t : TypeId) : NoU (w.alloc (.cells #[.int .i64 x, .bool s, .slice A n c] t)) w.heap.size := fun o m e => by
 have h := cell_of_row (w.alloc (.cells #[.int .i64 x, .bool s, .slice A n c] t)) w.heap.size o #[.int .i64 x, .bool s, .slice A n c] t (0, 0) (heap_alloc_new w _)
 rw [h] at e
 match o, e with
 | 0, e => cases e
 | 1, e => cases e
 | 2, e => cases e
 | o + 3, e => simp at e
theorem Bx3.new (w : World) (t : TypeId) : Bx3 (w.alloc (.cells #[.int .i64 0, .bool false, .slice none 0 0] t)) w.heap.size := ⟨Box3.new _ _ _ _ _, NoU.new _ _ _ _ _ _ _⟩
theorem Bx3.below (h : Bx3 w g) (hb : Below w.heap.size w w') : Bx3 w' g := ⟨h.box.below hb, h.no.below h.box.lt hb⟩
theorem Bx3.new2 (w : World) (o : Obj) (t : TypeId) : Bx3 ((w.alloc o).alloc (.cells #[.int .i64 0, .bool false, .slice none 0 0] t)) (w.heap.size + 1) := by
 have h := Bx3.new (w.alloc o) t
 rw [World.size_alloc] at h
 exact h
def zNe (g : Nat) : Zone := ⟨fun b => b ≠ g, False⟩
theorem U64s.offB {l : List Nat} (u : U64s w Z A c l) (h : NoU w g) : U64s w (zNe g) A c l :=
 ⟨u.small, u.cap, u.max, u.nul, fun h0 => by
  obtain ⟨b, o, e, _, _, hc⟩ := u.row h0
  refine ⟨b, o, e, fun hbg => ?_, fun h => h.elim, hc⟩
  subst hbg
  have h1 := hc 0 _ (List.getElem?_eq_getElem h0)
  rw [List.getElem_map] at h1
  exact h _ _ h1⟩
theorem U64s.set3n {l : List Nat} (u : U64s w Z A c l) (h : NoU w g) (x0 x1 x2 : Value) : U64s (((w.setCell ⟨g, 0, none⟩ x0).setCell ⟨g, 1, none⟩ x1).setCell ⟨g, 2, none⟩ x2) old A c l :=
 ((((u.offB h).set1 g 0 (fun h => h rfl) x0).set1 g 1 (fun h => h rfl) x1).set1 g 2 (fun h => h rfl) x2).mono (le_old _)
theorem NoU.set3 (u : NoU w h) (hn : g ≠ h) (x0 x1 x2 : Value) : NoU (((w.setCell ⟨g, 0, none⟩ x0).setCell ⟨g, 1, none⟩ x1).setCell ⟨g, 2, none⟩ x2) h := fun o n e => by
 rw [World.cell?_setCell_other _ _ _ _ (fun h => hn (by injection h)), World.cell?_setCell_other _ _ _ _ (fun h => hn (by injection h)), World.cell?_setCell_other _ _ _ _ (fun h => hn (by injection h))] at e
 exact u o n e
structure Res1 (W0 w : World) (g : Nat) (b : Int) (s : Bool) (l : List Nat) (A : Option Addr) (c : Nat) : Prop where
 box : Box3 w g (.int .i64 b) (.bool s) (.slice A l.length c)
 no : NoU w g
 u : U64s w old A c l
 lo : W0.heap.size ≤ g
 bel : Below W0.heap.size W0 w
theorem Res1.nw {b : Int} {l : List Nat} (Hc : Below W0.heap.size W0 w) (u : U64s w Z A c l) : Res1 W0 (w.alloc (.cells #[.int .i64 b, .bool s, .slice A l.length c] t)) w.heap.size b s l A c :=
 ⟨Box3.new _ _ _ _ _, NoU.new _ _ _ _ _ _ _, (u.mono (le_old _)).below bal_, Hc.size, from_ Hc bal_⟩
theorem NoU.of3 {n : Nat} (h : NoU w g) (hb : Bx3 w g) : NoU (((w.setCell ⟨g, 0, none⟩ (.int .i64 x)).setCell ⟨g, 1, none⟩ (.bool s)).setCell ⟨g, 2, none⟩ (.slice A n c)) g := fun o m e => by
 have hb3 := hb.box.set3 (.int .i64 x) (.bool s) (.slice A n c)
 by_cases h0 : o = 0
 · subst h0; rw [hb3.c0] at e; cases e
 · by_cases h1 : o = 1
   · subst h1; rw [hb3.c1] at e; cases e
   · by_cases h2 : o = 2
     · subst h2; rw [hb3.c2] at e; cases e
     · rw [World.cell?_setCell_other _ _ _ _ (fun h => h2 (by injection h with _ h; exact h.symm)), World.cell?_setCell_other _ _ _ _ (fun h => h1 (by injection h with _ h; exact h.symm)), World.cell?_setCell_other _ _ _ _ (fun h => h0 (by injection h with _ h; exact h.symm))] at e
       exact h o m e
theorem Res1.ol {b : Int} {l : List Nat} (Hc : Below W0.heap.size W0 w) (H : Bx3 w g) (hg : W0.heap.size ≤ g) (u : U64s w Z A c l) : Res1 W0 (((w.setCell ⟨g, 0, none⟩ (.int .i64 b)).setCell ⟨g, 1, none⟩ (.bool s)).setCell ⟨g, 2, none⟩ (.slice A l.length c)) g b s l A c :=
 ⟨H.box.set3 _ _ _, H.no.of3 H, u.set3n H.no _ _ _, hg, set3_below Hc hg _ _ _⟩
structure Res2 (W0 w : World) (g h : Nat) (b : Int) (s : Bool) (l : List Nat) (A : Option Addr) (c : Nat) (d : Int) (t : Bool) (k : List Nat) (B : Option Addr) (f : Nat) : Prop where
 bx : Box3 w g (.int .i64 b) (.bool s) (.slice A l.length c)
 by_ : Box3 w h (.int .i64 d) (.bool t) (.slice B k.length f)
 nx : NoU w g
 ny : NoU w h
 u : U64s w old A c l
 v : U64s w old B f k
 lx : W0.heap.size ≤ g
 ly : W0.heap.size ≤ h
 ne : g ≠ h
 bel : Below W0.heap.size W0 w
section
variable {W0 w : World} {g h : Nat} {b : Int} {s : Bool} {l : List Nat} {A : Option Addr} {c : Nat} {d : Int} {t : Bool} {k : List Nat} {B : Option Addr} {f : Nat} {Z Y : Zone} {T : TypeId}
theorem Res2.nn (Hc : Below W0.heap.size W0 w) (u : U64s w Z A c l) (v : U64s w Y B f k) : Res2 W0 ((w.alloc (.cells #[.int .i64 b, .bool s, .slice A l.length c] T)).alloc (.cells #[.int .i64 d, .bool t, .slice B k.length f] T)) w.heap.size (w.heap.size + 1) b s l A c d t k B f := by
 have r := Res1.nw (t := T) (b := b) (s := s) Hc u
 have r2 := Res1.nw (t := T) (b := d) (s := t) r.bel (v.below ((Below.refl _ _).alloc (Nat.le_refl _) (.cells #[.int .i64 b, .bool s, .slice A l.length c] T)))
 rw [World.size_alloc] at r2
 have hal := (Below.refl (w.alloc (.cells #[.int .i64 b, .bool s, .slice A l.length c] T)).heap.size (w.alloc (.cells #[.int .i64 b, .bool s, .slice A l.length c] T))).alloc (Nat.le_refl _) (.cells #[.int .i64 d, .bool t, .slice B k.length f] T)
 exact ⟨r.box.below hal, r2.box, r.no.below r.box.lt hal, r2.no, r.u.below hal, r2.u, r.lo, r2.lo, by omega, r2.bel⟩
theorem Res2.nm (Hc : Below W0.heap.size W0 w) (u : U64s w Z A c l) (v : U64s w Y B f k) : Res2 W0 ((w.alloc (.cells #[.int .i64 d, .bool t, .slice B k.length f] T)).alloc (.cells #[.int .i64 b, .bool s, .slice A l.length c] T)) (w.heap.size + 1) w.heap.size b s l A c d t k B f := by
 have r := Res2.nn (T := T) (b := d) (s := t) (d := b) (t := s) Hc v u
 exact ⟨r.by_, r.bx, r.ny, r.nx, r.v, r.u, r.ly, r.lx, r.ne.symm, r.bel⟩
theorem Res2.on (Hc : Below W0.heap.size W0 w) (H : Bx3 w g) (hg : W0.heap.size ≤ g) (u : U64s w Z A c l) (v : U64s w Y B f k) : Res2 W0 ((((w.setCell ⟨g, 0, none⟩ (.int .i64 b)).setCell ⟨g, 1, none⟩ (.bool s)).setCell ⟨g, 2, none⟩ (.slice A l.length c)).alloc (.cells #[.int .i64 d, .bool t, .slice B k.length f] T)) g w.heap.size b s l A c d t k B f := by
 have r := Res1.ol (b := b) (s := s) Hc H hg u
 have v2 := v.set3n H.no (.int .i64 b) (.bool s) (.slice A l.length c)
 have r2 := Res1.nw (t := T) (b := d) (s := t) r.bel v2
 have hz : (((w.setCell ⟨g, 0, none⟩ (.int .i64 b)).setCell ⟨g, 1, none⟩ (.bool s)).setCell ⟨g, 2, none⟩ (.slice A l.length c)).heap.size = w.heap.size := by simp
 rw [hz] at r2
 have hal := (Below.refl _ (((w.setCell ⟨g, 0, none⟩ (.int .i64 b)).setCell ⟨g, 1, none⟩ (.bool s)).setCell ⟨g, 2, none⟩ (.slice A l.length c))).alloc (Nat.le_refl _) (.cells #[.int .i64 d, .bool t, .slice B k.length f] T)
 have hlt := H.box.lt
 exact ⟨r.box.below hal, r2.box, r.no.below r.box.lt hal, r2.no, r.u.below hal, r2.u, r.lo, r2.lo, by omega, r2.bel⟩
theorem Res2.no (Hc : Below W0.heap.size W0 w) (H : Bx3 w h) (hg : W0.heap.size ≤ h) (u : U64s w Z A c l) (v : U64s w Y B f k) : Res2 W0 ((((w.setCell ⟨h, 0, none⟩ (.int .i64 d)).setCell ⟨h, 1, none⟩ (.bool t)).setCell ⟨h, 2, none⟩ (.slice B k.length f)).alloc (.cells #[.int .i64 b, .bool s, .slice A l.length c] T)) w.heap.size h b s l A c d t k B f := by
 have r := Res2.on (T := T) (b := d) (s := t) (d := b) (t := s) Hc H hg v u
 exact ⟨r.by_, r.bx, r.ny, r.nx, r.v, r.u, r.ly, r.lx, r.ne.symm, r.bel⟩
theorem Res2.oo (Hc : Below W0.heap.size W0 w) (H : Bx3 w g) (H2 : Bx3 w h) (hg : W0.heap.size ≤ g) (hh : W0.heap.size ≤ h) (hn : g ≠ h) (u : U64s w Z A c l) (v : U64s w Y B f k) :
  Res2 W0 ((((((w.setCell ⟨g, 0, none⟩ (.int .i64 b)).setCell ⟨g, 1, none⟩ (.bool s)).setCell ⟨g, 2, none⟩ (.slice A l.length c)).setCell ⟨h, 0, none⟩ (.int .i64 d)).setCell ⟨h, 1, none⟩ (.bool t)).setCell ⟨h, 2, none⟩ (.slice B k.length f)) g h b s l A c d t k B f := by
 have r := Res1.ol (b := b) (s := s) Hc H hg u
 have b2 : Bx3 (((w.setCell ⟨g, 0, none⟩ (.int .i64 b)).setCell ⟨g, 1, none⟩ (.bool s)).setCell ⟨g, 2, none⟩ (.slice A l.length c)) h := ⟨H2.box.oth3 g hn _ _ _, H2.no.set3 hn _ _ _⟩
 have v2 := v.set3n H.no (.int .i64 b) (.bool s) (.slice A l.length c)
 have r2 := Res1.ol (b := d) (s := t) r.bel b2 hh v2
 exact ⟨r.box.oth3 h (Ne.symm hn) _ _ _, r2.box, r.no.set3 (Ne.symm hn) _ _ _, r2.no, r.u.set3n b2.no _ _ _, r2.u, hg, hh, hn, r2.bel⟩
end
def CellsIv (w : World) (g : Nat) (xs : List Value) (k : Nat) (qs : List Iv) : Prop :=
 ∀ j (hj : j < qs.length), j < k → ∃ A0 d0 A1 d1, (xs[j * 6]? = some (.bool qs[j].n0) ∧ xs[j * 6 + 1]? = some (.bool qs[j].s0) ∧ xs[j * 6 + 2]? = some (.slice A0 qs[j].l0.length d0) ∧ xs[j * 6 + 3]? = some (.bool qs[j].n1) ∧ xs[j * 6 + 4]? = some (.bool qs[j].s1) ∧ xs[j * 6 + 5]? = some (.slice A1 qs[j].l1.length d1)) ∧ U64s w (new (g + 1)) A0 d0 qs[j].l0 ∧ U64s w (new (g + 1)) A1 d1 qs[j].l1
theorem CellsIv.keep {k : Nat} {qs : List Iv} (h : CellsIv w g xs k qs) (hk : ∀ b, b ≠ g → b < w.heap.size → w'.heap[b]? = w.heap[b]?) : CellsIv w' g xs k qs := fun j hj hjk => by
 obtain ⟨A0, d0, A1, d1, hc, u0, u1⟩ := h j hj hjk
 exact ⟨A0, d0, A1, d1, hc, u0.keep fun b hb hl => hk b (by have : g + 1 ≤ b := hb; omega) hl, u1.keep fun b hb hl => hk b (by have : g + 1 ≤ b := hb; omega) hl⟩
def set6 (xs : List Value) (k : Nat) (x0 x1 x2 x3 x4 x5 : Value) : List Value := (((((xs.set k x0).set (k + 1) x1).set (k + 2) x2).set (k + 3) x3).set (k + 4) x4).set (k + 5) x5
theorem set6_at {k : Nat} (h : k + 5 < xs.length) :
  (set6 xs k x0 x1 x2 x3 x4 x5)[k]? = some x0 ∧ (set6 xs k x0 x1 x2 x3 x4 x5)[k + 1]? = some x1 ∧ (set6 xs k x0 x1 x2 x3 x4 x5)[k + 2]? = some x2 ∧ (set6 xs k x0 x1 x2 x3 x4 x5)[k + 3]? = some x3 ∧ (set6 xs k x0 x1 x2 x3 x4 x5)[k + 4]? = some x4 ∧ (set6 xs k x0 x1 x2 x3 x4 x5)[k + 5]? = some x5 := by
 unfold set6
 refine ⟨?_, ?_, ?_, ?_, ?_, ?_⟩
 · rw [List.getElem?_set_ne (by omega), List.getElem?_set_ne (by omega), List.getElem?_set_ne (by omega), List.getElem?_set_ne (by omega), List.getElem?_set_ne (by omega), List.getElem?_set_self (by omega)]
 · rw [List.getElem?_set_ne (by omega), List.getElem?_set_ne (by omega), List.getElem?_set_ne (by omega), List.getElem?_set_ne (by omega), List.getElem?_set_self (by simp only [List.length_set]; omega)]
 · rw [List.getElem?_set_ne (by omega), List.getElem?_set_ne (by omega), List.getElem?_set_ne (by omega), List.getElem?_set_self (by simp only [List.length_set]; omega)]
 · rw [List.getElem?_set_ne (by omega), List.getElem?_set_ne (by omega), List.getElem?_set_self (by simp only [List.length_set]; omega)]
 · rw [List.getElem?_set_ne (by omega), List.getElem?_set_self (by simp only [List.length_set]; omega)]
 · rw [List.getElem?_set_self (by simp only [List.length_set]; omega)]
theorem set6_ne {k : Nat} (h : i < k ∨ k + 5 < i) : (set6 xs k x0 x1 x2 x3 x4 x5)[i]? = xs[i]? := by
 unfold set6
 rw [List.getElem?_set_ne (by omega), List.getElem?_set_ne (by omega), List.getElem?_set_ne (by omega), List.getElem?_set_ne (by omega), List.getElem?_set_ne (by omega), List.getElem?_set_ne (by omega)]
theorem CellsIv.put {k : Nat} {qs : List Iv} (h : CellsIv w g xs k qs) (hl : xs.length = qs.length * 6) (hk : k < qs.length)
  (u0 : U64s w (new (g + 1)) A0 d0 (qs[k]).l0) (u1 : U64s w (new (g + 1)) A1 d1 (qs[k]).l1) (hw : ∀ b, b ≠ g → b < w.heap.size → w'.heap[b]? = w.heap[b]?) :
  CellsIv w' g (set6 xs (k * 6) (.bool (qs[k]).n0) (.bool (qs[k]).s0) (.slice A0 (qs[k]).l0.length d0) (.bool (qs[k]).n1) (.bool (qs[k]).s1) (.slice A1 (qs[k]).l1.length d1)) (k + 1) qs := fun j hj hjk => by
 rcases Nat.lt_or_ge j k with h1 | h1
 · obtain ⟨B0, e0, B1, e1, hc, v0, v1⟩ := h j hj h1
   refine ⟨B0, e0, B1, e1, ?_, v0.keep fun b hb hl => hw b (by have : g + 1 ≤ b := hb; omega) hl, v1.keep fun b hb hl => hw b (by have : g + 1 ≤ b := hb; omega) hl⟩
   rw [set6_ne (by omega), set6_ne (by omega), set6_ne (by omega), set6_ne (by omega), set6_ne (by omega), set6_ne (by omega)]
   exact hc
 · obtain rfl : j = k := by omega
   exact ⟨A0, d0, A1, d1, set6_at (by omega), u0.keep fun b hb hl => hw b (by have : g + 1 ≤ b := hb; omega) hl, u1.keep fun b hb hl => hw b (by have : g + 1 ≤ b := hb; omega) hl⟩
theorem CellsIv.fin {qs : List Iv} (h : CellsIv w g xs qs.length qs) (hown : w.ownsRow B e 6 (.slice (some ⟨g, 0, none⟩) qs.length qs.length) qs.length xs) (hg : g < w.heap.size) (hB : B' ≤ g) (hm : qs.length ≤ 1000000000000) : IvsAt w (new B') (some ⟨g, 0, none⟩) qs.length qs := by
 refine ⟨Nat.le_refl _, by omega, fun h0 => ⟨g, 0, rfl, hg, fun j hj => ?_⟩⟩
 obtain ⟨A0, d0, A1, d1, ⟨c0, c1, c2, c3, c4, c5⟩, u0, u1⟩ := h j hj hj
 rw [Nat.zero_add]
 exact ⟨A0, d0, A1, d1, ⟨by rw [hown.cellAt (j * 6) (by omega)]; exact c0, by rw [hown.cellAt (j * 6 + 1) (by omega)]; exact c1, by rw [hown.cellAt (j * 6 + 2) (by omega)]; exact c2, by rw [hown.cellAt (j * 6 + 3) (by omega)]; exact c3, by rw [hown.cellAt (j * 6 + 4) (by omega)]; exact c4, by rw [hown.cellAt (j * 6 + 5) (by omega)]; exact c5⟩, u0.mono (new_le (by omega)), u1.mono (new_le (by omega))⟩
theorem CellsIv.none {qs : List Iv} : CellsIv w g xs 0 qs := fun j hj h => absurd h (by omega)
def NewA (B : Nat) (A : Option Addr) : Prop := ∀ b o, A = some ⟨b, o, none⟩ → B ≤ b
theorem leach_addN {ps qs : List Iv} {p0 : Addr} (ha : IvsAt w Z A c ps) (hs : ∀ p ∈ ps, p.short) (he : errF ps = 0) (hq : qs.length = ps.length)
  (hF : ∀ j (hj : j < ps.length) (hj' : j < qs.length) (w1 : World) B0 d0 B1 d1, Below w.heap.size w w1 → U64s w1 Z B0 d0 ps[j].l0 → U64s w1 Z B1 d1 ps[j].l1 → Calls Tryz.prog 104 #[.int .i64 (j : Int), .agg #[.bool ps[j].n0, .bool ps[j].s0, .slice B0 ps[j].l0.length d0, .bool ps[j].n1, .bool ps[j].s1, .slice B1 ps[j].l1.length d1], .pointer (some p0)] w1 fun e w' => ∃ rA ra rB rb, e = .returned (.tuple #[.agg #[.bool qs[j].n0, .bool qs[j].s0, .slice rA qs[j].l0.length ra, .bool qs[j].n1, .bool qs[j].s1, .slice rB qs[j].l1.length rb], .int .i64 0]) ∧ U64s w' (new w1.heap.size) rA ra qs[j].l0 ∧ U64s w' (new w1.heap.size) rB rb qs[j].l1 ∧ Below w1.heap.size w1 w') :
  Calls Tryz.prog 101 #[.slice A ps.length c, .func (.func 104) #[] #[.pointer (some p0)]] w fun e w' => ∃ Av cv, e = .returned (.tuple #[.slice Av qs.length cv, .int .i64 0]) ∧ IvsAt w' (new w.heap.size) Av cv qs ∧ Below w.heap.size w w' ∧ NewA w.heap.size Av := by
 obtain ⟨i0, hi, hz0, hz1, hz2⟩ := info_parts infoIv
 have hck := lcheck_any ha hs
 rw [he] at hck
 have hl : ps.length ≤ 64 := by
  unfold errF at he
  split at he
  · rename_i h; exact h.1.2
  · cases he
 have Hck := hid hck
 clear hck he hs
 obtain ⟨n, hn⟩ : ∃ n, n = ps.length := ⟨_, rfl⟩
 have hn' : qs.length = n := by omega
 have HF := hid hF
 have hmx := ha.max
 have hcp := ha.cap
 rw [← hn] at hl hcp Hck ⊢
 obtain ⟨Hn, Hn'⟩ := hid2 hn hn'
 clear hF hq hn hn'
 go_enter Tryz.func101, Tryz.ntmps101
 go_wp2_with fail
 refine Hck.out.mono ?_
 rintro e w1 ⟨rfl, hc⟩
 go_wp2_with (at_make; go_loud (refine wpList_make_full _ rfl _ _ 31 rfl w.heap.size 29 i0 (.agg #[.bool false, .bool false, .slice none 0 0, .bool false, .bool false, .slice none 0 0]) 6 Tryz.underlying31 hi hz0 hz1 .i64 .i64 _ _ n rfl rfl rfl rfl (by rw [hz2]; omega) (by simp only [maxLen]; omega) hc.size ?_); intro w2 hown hgrow)
 have hb1 : Below w.heap.size w w2 := hc.grown hgrow hc.size (fun k h => by cases h)
 generalize (madeCells (Value.agg #[.bool false, .bool false, .slice none 0 0, .bool false, .bool false, .slice none 0 0]).cells (n * 6)).toList = xs0 at hown
 obtain ⟨g, hg⟩ : ∃ g, g = w1.heap.size := ⟨_, rfl⟩
 have hge : w.heap.size ≤ g := by rw [hg]; exact hc.size
 obtain ⟨Hge, HA0⟩ := hid2 hge (ha.below hb1)
 rw [← hg] at hown
 clear hgrow hc Hck hge
 go_wp2
 simp only [← hg]
 clear hg
 go_loopw [20] (fun i wr => ∃ (k : Nat) (xs : List Value), k ≤ n ∧ i = .int .i64 (k : Int) ∧ wr.ownsRow w.heap.size 29 6 (.slice (some ⟨g, 0, none⟩) n n) n xs ∧ Hid (CellsIv wr g xs k qs) ∧ Below w.heap.size w wr ∧ g < wr.heap.size) (fun i _ => n - (intOf i).toNat)
 case atStart => exact ⟨0, xs0, Nat.zero_le _, rfl, hown, hid CellsIv.none, hb1, (hown.lt _ rfl).2⟩
 case round =>
  clear hown hb1 HA0
  obtain ⟨k, xs, hk, rfl, hown, hcells, hbel, hgt⟩ := hrel
  by_cases hlt : k < n
  · have hkp : k < ps.length := by have := Hn.out; omega
    have hkq : k < qs.length := by have := Hn'.out; omega
    obtain ⟨b, o, B0, d0, B1, d1, rfl, hbb, ⟨c0, c1, c2, c3, c4, c5⟩, u0, u1⟩ := ha.at hkp
    replace c0 := keepC hbel c0
    replace c1 := keepC hbel c1
    replace c2 := keepC hbel c2
    replace c3 := keepC hbel c3
    replace c4 := keepC hbel c4
    replace c5 := keepC hbel c5
    have hxl := hown.1
    have hput := fun (w2 w' : World) (A2 A3 : Option Addr) (c2 c3 : Nat) (h1 : CellsIv w2 g xs k qs) h2 h3 h4 => h1.put (w' := w') (A0 := A2) (A1 := A3) (d0 := c2) (d1 := c3) (by have := Hn'.out; omega) hkq h2 h3 h4
    have Hput := hid hput
    have hal : Below wr.heap.size wr (wr.alloc (.cells #[.bool ps[k].n0, .bool ps[k].s0, .slice B0 ps[k].l0.length d0, .bool ps[k].n1, .bool ps[k].s1, .slice B1 ps[k].l1.length d1] 29)) := (Below.refl _ _).alloc (Nat.le_refl _) _
    have hfk := HF.out k hkp hkq _ B0 d0 B1 d1 (from_ hbel hal) ((u0.below hbel).below hal) ((u1.below hbel).below hal)
    obtain ⟨Hfk, Hal⟩ := hid2 hfk hal
    clear hput hfk hal u0 u1
    generalize ps[k].n0 = pn0 at *
    generalize ps[k].s0 = ps0 at *
    generalize ps[k].l0 = pl0 at *
    generalize ps[k].n1 = pn1 at *
    generalize ps[k].s1 = ps1 at *
    generalize ps[k].l1 = pl1 at *
    generalize qs[k].n0 = qn0 at *
    generalize qs[k].s0 = qs0 at *
    generalize qs[k].l0 = ql0 at *
    generalize qs[k].n1 = qn1 at *
    generalize qs[k].s1 = qs1 at *
    generalize qs[k].l1 = ql1 at *
    go_wp2_with fail
    refine Hfk.out.mono ?_
    rintro e w3 ⟨A3, d3, A4, d4, rfl, v0, v1, hb2⟩
    have hb3 := from_ Hal.out hb2
    have hown2 := own_below hown hb3
    have hcells2 := hcells.out.keep (w' := w3) fun b _ hl => hb3.block b hl
    have hv0 := v0.mono (Y := new (g + 1)) (new_le (by have := Hal.out.size; omega))
    have hv1 := v1.mono (Y := new (g + 1)) (new_le (by have := Hal.out.size; omega))
    have hP := Hput.out w3 ((((((w3.setCell ⟨g, k * 6, none⟩ (.bool qn0)).setCell ⟨g, k * 6 + 1, none⟩ (.bool qs0)).setCell ⟨g, k * 6 + 2, none⟩ (.slice A3 ql0.length d3)).setCell ⟨g, k * 6 + 3, none⟩ (.bool qn1)).setCell ⟨g, k * 6 + 4, none⟩ (.bool qs1)).setCell ⟨g, k * 6 + 5, none⟩ (.slice A4 ql1.length d4)) A3 A4 d3 d4 hcells2 hv0 hv1 (fun b hb _ => by
     rw [Below.heap_setCell _ _ _ _ hb, Below.heap_setCell _ _ _ _ hb, Below.heap_setCell _ _ _ _ hb, Below.heap_setCell _ _ _ _ hb, Below.heap_setCell _ _ _ _ hb, Below.heap_setCell _ _ _ _ hb])
    have e0 := hown2.cellAt (k * 6) (by omega)
    have e1 := hown2.cellAt (k * 6 + 1) (by omega)
    have e2 := hown2.cellAt (k * 6 + 2) (by omega)
    have e3 := hown2.cellAt (k * 6 + 3) (by omega)
    have e4 := hown2.cellAt (k * 6 + 4) (by omega)
    have e5 := hown2.cellAt (k * 6 + 5) (by omega)
    rw [List.getElem?_eq_getElem (by omega)] at e0 e1 e2 e3 e4 e5
    have f0 := hown2.frozenAt (k * 6)
    have f1 := hown2.frozenAt (k * 6 + 1)
    have f2 := hown2.frozenAt (k * 6 + 2)
    have f3 := hown2.frozenAt (k * 6 + 3)
    have f4 := hown2.frozenAt (k * 6 + 4)
    have f5 := hown2.frozenAt (k * 6 + 5)
    have o1 := (hown2.stored (k * 6) (.bool qn0)).1
    have o2 := (o1.stored (k * 6 + 1) (.bool qs0)).1
    have o3 := (o2.stored (k * 6 + 2) (.slice A3 ql0.length d3)).1
    have o4 := (o3.stored (k * 6 + 3) (.bool qn1)).1
    have o5 := (o4.stored (k * 6 + 4) (.bool qs1)).1
    have o6 := (o5.stored (k * 6 + 5) (.slice A4 ql1.length d4)).1
    have hB2 := from_ hbel hb3
    have hB3 := ((((((hB2.setCell (p := ⟨g, k * 6, none⟩) Hge.out (.bool qn0)).setCell (p := ⟨g, k * 6 + 1, none⟩) Hge.out (.bool qs0)).setCell (p := ⟨g, k * 6 + 2, none⟩) Hge.out (.slice A3 ql0.length d3)).setCell (p := ⟨g, k * 6 + 3, none⟩) Hge.out (.bool qn1)).setCell (p := ⟨g, k * 6 + 4, none⟩) Hge.out (.bool qs1)).setCell (p := ⟨g, k * 6 + 5, none⟩) Hge.out (.slice A4 ql1.length d4))
    have hgt3 : g < ((((((w3.setCell ⟨g, k * 6, none⟩ (.bool qn0)).setCell ⟨g, k * 6 + 1, none⟩ (.bool qs0)).setCell ⟨g, k * 6 + 2, none⟩ (.slice A3 ql0.length d3)).setCell ⟨g, k * 6 + 3, none⟩ (.bool qn1)).setCell ⟨g, k * 6 + 4, none⟩ (.bool qs1)).setCell ⟨g, k * 6 + 5, none⟩ (.slice A4 ql1.length d4)).heap.size := by
     have := hb3.size
     simp [World.setCell]
     omega
    obtain ⟨HP, HO, HB⟩ := hid3 hP o6 hB3
    clear hP o1 o2 o3 o4 o5 o6 v0 v1 hv0 hv1 hown2 hcells2 hcells hown hB2 hB3 hb2 hb3 Hput
    generalize xs[k * 6] = x0 at *
    generalize xs[k * 6 + 1] = x1 at *
    generalize xs[k * 6 + 2] = x2 at *
    generalize xs[k * 6 + 3] = x3 at *
    generalize xs[k * 6 + 4] = x4 at *
    generalize xs[k * 6 + 5] = x5 at *
    go_wp2
    go_roundw
    case rel => exact ⟨k + 1, _, by omega, by go_num, HO.out, HP, HB.out, hgt3⟩
    case measure => simp [intOf]; omega
  · obtain rfl : n = k := by omega
    have hnn := Hn'.out
    have hfin : IvsAt wr (new w.heap.size) (some ⟨g, 0, none⟩) n qs := by
     have h1 := hcells.out
     rw [← hnn] at h1 hown ⊢
     exact h1.fin hown hgt Hge.out (by omega)
    have Hfin := hid hfin
    clear hfin hcells hown
    go_wp2
    go_ret2
    rw [Hn'.out]
    exact ⟨_, _, rfl, Hfin.out, hbel, fun b o e => by injection e with e; injection e with e _; have := Hge.out; omega⟩
structure FmW (N : Nat) (Ps : List IvP) (ps : List Iv) : Prop where
 len : ps.length = Ps.length
 iv : ∀ j (h : j < ps.length) (h' : j < Ps.length), IvW Ps[j] ps[j] ∧ IvN N Ps[j].1 Ps[j].2
theorem FmW.of {Ps : List IvP} (h : ∀ j (h : j < Ps.length), IvN N Ps[j].1 Ps[j].2) : FmW N Ps (fmOf Ps) :=
 ⟨fmOf_len Ps, fun j h1 h2 => ⟨by rw [fmOf_get h1 h2]; exact IvW.mk _, h j h2⟩⟩
theorem FmW.n {Ps : List IvP} {ps : List Iv} (h : FmW N Ps ps) (j : Nat) (hj : j < Ps.length) : IvN N Ps[j].1 Ps[j].2 := (h.iv j (by rw [h.len]; exact hj) hj).2
theorem FmW.up {Ps : List IvP} {ps : List Iv} (h : FmW N Ps ps) (hN : N ≤ M) : FmW M Ps ps := ⟨h.len, fun j h1 h2 => ⟨(h.iv j h1 h2).1, (h.iv j h1 h2).2.up hN⟩⟩
theorem FmW.short {Ps : List IvP} {ps : List Iv} (h : FmW N Ps ps) (hN : N ≤ 64) : ∀ p ∈ ps, p.short := fun p hp => by
 obtain ⟨j, hj, rfl⟩ := List.getElem_of_mem hp
 obtain ⟨h1, h2⟩ := h.iv j hj (by rw [← h.len]; exact hj)
 have k := h1.k h2 hN
 exact ⟨by have := k.q0; omega, by have := k.q1; omega⟩
theorem FmW.all {Ps : List IvP} {ps : List Iv} (h : FmW N Ps ps) (hN : N ≤ 64) : ps.all Iv.ok = true := by
 rw [List.all_eq_true]
 intro p hp
 obtain ⟨j, hj, rfl⟩ := List.getElem_of_mem hp
 obtain ⟨h1, h2⟩ := h.iv j hj (by rw [← h.len]; exact hj)
 exact h1.okP h2 hN
theorem FmW.err {Ps : List IvP} {ps : List Iv} (h : FmW N Ps ps) (hN : N ≤ 64) (hl : 1 ≤ ps.length ∧ ps.length ≤ 64) : errF ps = 0 := by
 unfold errF
 rw [if_pos ⟨hl, h.all hN⟩]
def addLL (Ps Qs : List IvP) : List IvP := List.zipWith ivA Ps Qs
theorem addLL_get {Ps Qs : List IvP} (h : j < (addLL Ps Qs).length) (h' : j < Ps.length) (h2 : j < Qs.length) : (addLL Ps Qs)[j] = ivA Ps[j] Qs[j] := List.getElem_zipWith
theorem ladd_n {Y : Zone} {B : Option Addr} {ps qs : List Iv} {Ps Qs : List IvP} (ha : IvsAt w Z A c ps) (hb : IvsAt w Y B d qs) (hp : FmW 32 Ps ps) (hq : FmW 32 Qs qs) (hl : 1 ≤ ps.length ∧ ps.length ≤ 64) (hpq : qs.length = ps.length) :
  Calls Tryz.prog 73 #[.slice A ps.length c, .slice B qs.length d] w fun e w' => ∃ Av cv, e = .returned (.tuple #[.slice Av (fmOf (addLL Ps Qs)).length cv, .int .i64 0]) ∧ IvsAt w' (new w.heap.size) Av cv (fmOf (addLL Ps Qs)) ∧ Below w.heap.size w w' ∧ NewA w.heap.size Av := by
 have hl2 : (fmOf (addLL Ps Qs)).length = ps.length := by rw [fmOf_len, addLL, List.length_zipWith, ← hp.len, ← hq.len]; omega
 have hB0 : Below w.heap.size w (w.alloc (.cells #[.slice B qs.length d] 31)) := (Below.refl _ w).alloc (Nat.le_refl _) _
 have hG : (w.alloc (.cells #[.slice B qs.length d] 31)).cell? ⟨w.heap.size, 0, none⟩ = some (.slice B qs.length d) := cell_newest rfl rfl
 have k1 := lcheck_any (ha.below hB0) (hp.short (by omega))
 rw [hp.err (by omega) hl] at k1
 have k2 : Hid (∀ W, Below w.heap.size w W → Calls Tryz.prog 103 #[.slice B qs.length d] W fun e w' => e = .returned (.int .i64 0) ∧ Below W.heap.size W w') := fun W h => by
  have := lcheck_any (hb.below h) (hq.short (by omega))
  rwa [hq.err (by omega) (by omega)] at this
 have HE := hid (fun (W : World) (hb0 : Below w.heap.size w W) (hg : W.cell? ⟨w.heap.size, 0, none⟩ = some (.slice B qs.length d)) => leach_addN (w := W) (p0 := ⟨w.heap.size, 0, none⟩) (ha.below hb0) (hp.short (by omega)) (hp.err (by omega) hl) hl2 (fun j hj hj' w1 B0 d0 B1 d1 hb1 v0 v1 => by
  obtain ⟨h1, h2⟩ := hp.iv j hj (by rw [← hp.len]; exact hj)
  obtain ⟨h3, h4⟩ := hq.iv j (by omega) (by rw [← hq.len]; omega)
  obtain ⟨b, o, E0, e0, E1, e1, rfl, hbb, ⟨c0, c1, c2, c3, c4, c5⟩, x0, x1⟩ := hb.at (j := j) (by omega)
  exact ladd1_w h1 h3 (by rw [fmOf_get hj' (by rw [← fmOf_len]; exact hj'), addLL_get _ (by rw [← hp.len]; exact hj) (by rw [← hq.len]; omega)]; exact IvW.mk _) h2 h4 (keepC hb1 hg) (by omega) (by omega) ⟨keepC hb1 (keepC hb0 c0), keepC hb1 (keepC hb0 c1), keepC hb1 (keepC hb0 c2), keepC hb1 (keepC hb0 c3), keepC hb1 (keepC hb0 c4), keepC hb1 (keepC hb0 c5)⟩ v0 v1 ((x0.below hb0).below hb1) ((x1.below hb0).below hb1)))
 obtain ⟨Hb0, HK⟩ := hid2 hB0 k1
 clear k1 hl2 ha hb hp hq hl hB0
 rw [hpq] at HE k2 hG Hb0 HK ⊢
 clear hpq
 have t1 : ((ps.length : Int) != (ps.length : Int)) = false := bne_self_eq_false _
 generalize ps.length = L at *
 generalize fmOf (addLL Ps Qs) = rs at *
 have HG := hid hG
 go_enter Tryz.func73, Tryz.ntmps73
 go_wp2_with fail
 refine HK.out.mono ?_
 rintro e w1 ⟨rfl, hc⟩
 have H1 := hid (from_ Hb0.out hc)
 have g1 := keepC hc hG
 clear hG hc
 go_wp2_with fail
 refine (k2.out _ H1.out).mono ?_
 rintro e w2 ⟨rfl, hc⟩
 have H2 := hid (from_ H1.out hc)
 have g2 := keepC hc g1
 have G2 := hid g2
 clear g1 hc
 go_wp2_with fail
 refine (HE.out _ H2.out G2.out).mono ?_
 rintro e w3 ⟨Av, cv, rfl, hv, hc, hn⟩
 obtain ⟨HN, HV, HB⟩ := hid3 (show NewA w.heap.size Av from fun b o e => Nat.le_trans H2.out.size (hn b o e)) (hv.mono (Y := new w.heap.size) (new_le H2.out.size)) (from_ H2.out hc)
 clear hv hc hn
 go_wp2
 go_ret2
 exact ⟨_, _, rfl, HV.out, HB.out, HN.out⟩
def nullI : Iv := ⟨false, false, [], false, false, []⟩
theorem nullI_of : ivOf 0 0 = nullI := by
 have h0 := bigZ_pos
 unfold ivOf nullI nLo nHi sE lE
 rw [decide_eq_false (by omega), decide_eq_false (by omega), decide_eq_false (by omega), if_pos (by omega)]
 rw [show limbs (0 : Int).natAbs = [] from limbs_eq_nil.2 rfl]
theorem made_sixI {n : Nat} (h : i < n * 6) : (madeCells (Value.agg #[.bool false, .bool false, .slice none 0 0, .bool false, .bool false, .slice none 0 0]).cells (n * 6)).toList[i]? = some (if i % 6 = 2 ∨ i % 6 = 5 then .slice none 0 0 else .bool false) := by
 have e : (Value.agg #[.bool false, .bool false, .slice none 0 0, .bool false, .bool false, .slice none 0 0]).cells = #[.bool false, .bool false, .slice none 0 0, .bool false, .bool false, .slice none 0 0] := rfl
 rw [e, Array.getElem?_toList]
 unfold madeCells
 rw [Array.getElem?_map, Array.getElem?_eq_getElem (by simpa using h)]
 simp only [Array.getElem_range, Option.map_some]
 have h6 : i % 6 = 0 ∨ i % 6 = 1 ∨ i % 6 = 2 ∨ i % 6 = 3 ∨ i % 6 = 4 ∨ i % 6 = 5 := by omega
 rcases h6 with h | h | h | h | h | h <;> simp [h]
structure OwnIv (w : World) (B g n : Nat) (qs : List Iv) (xs : List Value) : Prop where
 own : w.ownsRow B 29 6 (.slice (some ⟨g, 0, none⟩) n n) n xs
 len : qs.length = n
 cells : CellsIv w g xs n qs
theorem OwnIv.zero {n : Nat} (h : w.ownsRow B 29 6 (.slice (some ⟨g, 0, none⟩) n n) n xs) (hx : xs = (madeCells (Value.agg #[.bool false, .bool false, .slice none 0 0, .bool false, .bool false, .slice none 0 0]).cells (n * 6)).toList) : OwnIv w B g n (List.replicate n nullI) xs := by
 refine ⟨h, by simp, fun j hj hjn => ?_⟩
 rw [List.getElem_replicate]
 refine ⟨none, 0, none, 0, ⟨?_, ?_, ?_, ?_, ?_, ?_⟩, U64s.nil _ _, U64s.nil _ _⟩
 · rw [hx, made_sixI (by omega), if_neg (by omega)]; rfl
 · rw [hx, made_sixI (by omega), if_neg (by omega)]; rfl
 · rw [hx, made_sixI (by omega), if_pos (by omega)]; rfl
 · rw [hx, made_sixI (by omega), if_neg (by omega)]; rfl
 · rw [hx, made_sixI (by omega), if_neg (by omega)]; rfl
 · rw [hx, made_sixI (by omega), if_pos (by omega)]; rfl
theorem OwnIv.lt {n : Nat} {qs : List Iv} (h : OwnIv w B g n qs xs) : B ≤ g ∧ g < w.heap.size := h.own.lt g rfl
theorem OwnIv.below {n : Nat} {qs : List Iv} (h : OwnIv w B g n qs xs) (hb : Below w.heap.size w w') : OwnIv w' B g n qs xs :=
 ⟨own_below h.own hb, h.len, h.cells.keep fun b _ hl => hb.block b hl⟩
theorem OwnIv.at {n : Nat} {qs : List Iv} (h : OwnIv w B g n qs xs) (hi : i < n) : ∃ x0 x1 x2 x3 x4 x5, (w.cell? ⟨g, i * 6, none⟩ = some x0 ∧ w.cell? ⟨g, i * 6 + 1, none⟩ = some x1 ∧ w.cell? ⟨g, i * 6 + 2, none⟩ = some x2 ∧ w.cell? ⟨g, i * 6 + 3, none⟩ = some x3 ∧ w.cell? ⟨g, i * 6 + 4, none⟩ = some x4 ∧ w.cell? ⟨g, i * 6 + 5, none⟩ = some x5) ∧ (w.frozen? ⟨g, i * 6, none⟩ = false ∧ w.frozen? ⟨g, i * 6 + 1, none⟩ = false ∧ w.frozen? ⟨g, i * 6 + 2, none⟩ = false ∧ w.frozen? ⟨g, i * 6 + 3, none⟩ = false ∧ w.frozen? ⟨g, i * 6 + 4, none⟩ = false ∧ w.frozen? ⟨g, i * 6 + 5, none⟩ = false) := by
 obtain ⟨A0, d0, A1, d1, ⟨h0, h1, h2, h3, h4, h5⟩, _, _⟩ := h.cells i (by have := h.len; omega) hi
 exact ⟨_, _, _, _, _, _, ⟨(h.own.cellAt (i * 6) (by omega)).trans h0, (h.own.cellAt (i * 6 + 1) (by omega)).trans h1, (h.own.cellAt (i * 6 + 2) (by omega)).trans h2, (h.own.cellAt (i * 6 + 3) (by omega)).trans h3, (h.own.cellAt (i * 6 + 4) (by omega)).trans h4, (h.own.cellAt (i * 6 + 5) (by omega)).trans h5⟩, h.own.frozenAt _, h.own.frozenAt _, h.own.frozenAt _, h.own.frozenAt _, h.own.frozenAt _, h.own.frozenAt _⟩
theorem OwnIv.set {n : Nat} {qs : List Iv} (h : OwnIv w B g n qs xs) (hi : i < n) (u0 : U64s w (new (g + 1)) A0 d0 q.l0) (u1 : U64s w (new (g + 1)) A1 d1 q.l1) :
  OwnIv ((((((w.setCell ⟨g, i * 6, none⟩ (.bool q.n0)).setCell ⟨g, i * 6 + 1, none⟩ (.bool q.s0)).setCell ⟨g, i * 6 + 2, none⟩ (.slice A0 q.l0.length d0)).setCell ⟨g, i * 6 + 3, none⟩ (.bool q.n1)).setCell ⟨g, i * 6 + 4, none⟩ (.bool q.s1)).setCell ⟨g, i * 6 + 5, none⟩ (.slice A1 q.l1.length d1)) B g n (qs.set i q) (set6 xs (i * 6) (.bool q.n0) (.bool q.s0) (.slice A0 q.l0.length d0) (.bool q.n1) (.bool q.s1) (.slice A1 q.l1.length d1)) := by
 have o1 := (h.own.stored (i * 6) (.bool q.n0)).1
 have o2 := (o1.stored (i * 6 + 1) (.bool q.s0)).1
 have o3 := (o2.stored (i * 6 + 2) (.slice A0 q.l0.length d0)).1
 have o4 := (o3.stored (i * 6 + 3) (.bool q.n1)).1
 have o5 := (o4.stored (i * 6 + 4) (.bool q.s1)).1
 have o6 := (o5.stored (i * 6 + 5) (.slice A1 q.l1.length d1)).1
 have hxl := h.own.1
 have hw : ∀ b, b ≠ g → b < w.heap.size → ((((((w.setCell ⟨g, i * 6, none⟩ (.bool q.n0)).setCell ⟨g, i * 6 + 1, none⟩ (.bool q.s0)).setCell ⟨g, i * 6 + 2, none⟩ (.slice A0 q.l0.length d0)).setCell ⟨g, i * 6 + 3, none⟩ (.bool q.n1)).setCell ⟨g, i * 6 + 4, none⟩ (.bool q.s1)).setCell ⟨g, i * 6 + 5, none⟩ (.slice A1 q.l1.length d1)).heap[b]? = w.heap[b]? := fun b hb _ => by
  rw [Below.heap_setCell _ _ _ _ hb, Below.heap_setCell _ _ _ _ hb, Below.heap_setCell _ _ _ _ hb, Below.heap_setCell _ _ _ _ hb, Below.heap_setCell _ _ _ _ hb, Below.heap_setCell _ _ _ _ hb]
 refine ⟨o6, by rw [List.length_set, h.len], fun j hj hjn => ?_⟩
 rw [List.length_set] at hj
 by_cases hji : i = j
 · subst hji
   rw [List.getElem_set_self]
   exact ⟨A0, d0, A1, d1, set6_at (by omega), u0.keep fun b hb hl => hw b (by have : g + 1 ≤ b := hb; omega) hl, u1.keep fun b hb hl => hw b (by have : g + 1 ≤ b := hb; omega) hl⟩
 · rw [List.getElem_set_ne hji]
   obtain ⟨B0, e0, B1, e1, hc, v0, v1⟩ := h.cells j hj hjn
   refine ⟨B0, e0, B1, e1, ?_, v0.keep fun b hb hl => hw b (by have : g + 1 ≤ b := hb; omega) hl, v1.keep fun b hb hl => hw b (by have : g + 1 ≤ b := hb; omega) hl⟩
   rw [set6_ne (by omega), set6_ne (by omega), set6_ne (by omega), set6_ne (by omega), set6_ne (by omega), set6_ne (by omega)]
   exact hc
theorem OwnIv.fin {n : Nat} {qs : List Iv} (h : OwnIv w B g n qs xs) (hB : B' ≤ B) (hn : n ≤ 1000000) : IvsAt w (new B') (some ⟨g, 0, none⟩) n qs := by
 have hl := h.len
 have hg := h.lt
 have ho := h.own
 have hc := h.cells
 subst hl
 exact hc.fin ho hg.2 (by omega) (by omega)
def varL (d i : Nat) : List IvP := (List.replicate (d + 1) ((0 : Int), (0 : Int))).set i (1, 1)
theorem varL_w (d i : Nat) : fmOf (varL d i) = (List.replicate (d + 1) nullI).set i (ivOf 1 1) := by
 unfold fmOf varL
 rw [List.map_set, List.map_replicate, nullI_of]
theorem varL_len (d i : Nat) : (varL d i).length = d + 1 := by simp [varL]
theorem lvar_goodN (hd : d ≤ 63) (h1 : 1 ≤ i) (h2 : i ≤ d) :
  Calls Tryz.prog 41 #[.int .i64 (d : Int), .int .i64 (i : Int)] w fun e w' => ∃ Av cv, e = .returned (.tuple #[.slice Av (d + 1) cv, .int .i64 0]) ∧ IvsAt w' (new w.heap.size) Av cv (fmOf (varL d i)) ∧ Below w.heap.size w w' ∧ NewA w.heap.size Av := by
 obtain ⟨i0, hi, hz0, hz1, hz2⟩ := info_parts infoIv
 have PT := hid (fun W : World => lpoint_w (w := W) (x := 1) (by omega))
 have g1 : decide ((d : Int) < 0) = false := decide_eq_false (by omega)
 have g2 : decide ((63 : Int) < (d : Int)) = false := decide_eq_false (by omega)
 have g2' : decide (63 < d) = false := decide_eq_false (by omega)
 have g3 : decide ((i : Int) < 1) = false := decide_eq_false (by omega)
 have g3' : decide (i < 1) = false := decide_eq_false (by omega)
 have g3'' : decide (i = 0) = false := decide_eq_false (by omega)
 have g4 : decide ((d : Int) < (i : Int)) = false := decide_eq_false (by omega)
 have g4' : decide (d < i) = false := decide_eq_false (by omega)
 have hw1 : IntKind.i64.wrap ((d : Int) + 1) = ((d + 1 : Nat) : Int) := by rw [IntKind.wrap_i64]; omega
 have hi0 : (0 : Int) ≤ (i : Int) := by omega
 have hi1 : (i : Int) ≤ (d : Int) := by omega
 have hi2 : (i : Int) < ((d + 1 : Nat) : Int) := by omega
 have hi3 : i < d + 1 := by omega
 have hv := varL_w d i
 have HV := hid hv
 have hbase : w.heap.size ≤ w.heap.size := Nat.le_refl _
 clear hv
 rw [HV.out]
 clear HV
 generalize hpq : ivOf 1 1 = q at *
 have e1 : nLo 1 = q.n0 := by rw [← hpq]; rfl
 have e2 : sE 1 = q.s0 := by rw [← hpq]; rfl
 have e3 : lE 1 = q.l0 := by rw [← hpq]; rfl
 have e4 : nHi 1 = q.n1 := by rw [← hpq]; rfl
 have e5 : q.s0 = q.s1 := by rw [← hpq]; rfl
 have e6 : q.l0 = q.l1 := by rw [← hpq]; rfl
 replace PT : Hid (∀ W : World, Calls Tryz.prog 61 #[.int .i64 1] W fun e w' => ∃ A a B b, e = .returned (.agg #[.bool q.n0, .bool q.s0, .slice A q.l0.length a, .bool q.n1, .bool q.s1, .slice B q.l1.length b]) ∧ U64s w' (new W.heap.size) A a q.l0 ∧ U64s w' (new W.heap.size) B b q.l1 ∧ Below W.heap.size W w') := fun W => by
  have := PT.out W
  rw [e1, e2, e3, e4] at this
  rw [← e5, ← e6]
  exact this
 clear e1 e2 e3 e4 e5 e6 hpq
 go_enter Tryz.func41, Tryz.ntmps41
 go_wp2_with (at_make; go_loud (refine wpList_make_full _ rfl _ _ 31 rfl w.heap.size 29 i0 (.agg #[.bool false, .bool false, .slice none 0 0, .bool false, .bool false, .slice none 0 0]) 6 Tryz.underlying31 hi hz0 hz1 .i64 .i64 _ _ (d + 1) rfl rfl rfl rfl (by rw [hz2]; omega) (by simp only [maxLen]; omega) hbase ?_); intro w2 hown hgrow)
 have hb0 : Below w.heap.size w w2 := (Below.refl _ w).grown hgrow (Nat.le_refl _) (fun k h => by cases h)
 have ho0 := OwnIv.zero hown rfl
 generalize (madeCells (Value.agg #[.bool false, .bool false, .slice none 0 0, .bool false, .bool false, .slice none 0 0]).cells ((d + 1) * 6)).toList = xs0 at *
 have HO := hid ho0
 clear hown ho0 hgrow
 obtain ⟨g, hg⟩ : ∃ g, g = w.heap.size := ⟨_, rfl⟩
 have hge : w.heap.size ≤ g := by omega
 have HGE := hid hge
 rw [← hg] at HO
 simp only [← hg]
 refine (PT.out _).mono ?_
 rintro e w3 ⟨A3, d3, B3, e3, rfl, u1, u2, hc⟩
 have hO := HO.out.below hc
 have hgl := HO.out.lt
 obtain ⟨x0, x1, x2, x3, x4, x5, ⟨c0, c1, c2, c3, c4, c5⟩, f0, f1, f2, f3, f4, f5⟩ := hO.at hi3
 obtain ⟨HS, HB⟩ := hid2 ((hO.set hi3 (u1.mono (new_le hgl.2)) (u2.mono (new_le hgl.2))).fin (B' := w.heap.size) (by omega) (by omega)) (((((((from_ hb0 hc).setCell (p := ⟨g, i * 6, none⟩) hge (.bool q.n0)).setCell (p := ⟨g, i * 6 + 1, none⟩) hge (.bool q.s0)).setCell (p := ⟨g, i * 6 + 2, none⟩) hge (.slice A3 q.l0.length d3)).setCell (p := ⟨g, i * 6 + 3, none⟩) hge (.bool q.n1)).setCell (p := ⟨g, i * 6 + 4, none⟩) hge (.bool q.s1)).setCell (p := ⟨g, i * 6 + 5, none⟩) hge (.slice B3 q.l1.length e3))
 clear hO u1 u2 hc hb0 HO hg hgl PT
 go_wp2
 go_ret2
 exact ⟨_, _, rfl, HS.out, HB.out, fun b o e => by injection e with e; injection e with e _; have := HGE.out; omega⟩
theorem lbetween_w (hx : -9223372036854775808 ≤ x ∧ x ≤ 9223372036854775807) (hy : -9223372036854775808 ≤ y ∧ y ≤ 9223372036854775807) (h : x ≤ y) :
  Calls Tryz.prog 39 #[.int .i64 x, .int .i64 y] w fun e w' => ∃ A c B d, e = .returned (.agg #[.bool (nLo x), .bool (sE x), .slice A (lE x).length c, .bool (nHi y), .bool (sE y), .slice B (lE y).length d]) ∧ U64s w' (new w.heap.size) A c (lE x) ∧ U64s w' (new w.heap.size) B d (lE y) ∧ Below w.heap.size w w' := by
 have hB0 : Below w.heap.size w (w.alloc (.cells #[.bool false, .bool false, .slice none 0 0, .bool false, .bool false, .slice none 0 0] 29)) := (Below.refl _ w).alloc (Nat.le_refl _) _
 obtain ⟨HR, HO, Hb0⟩ := hid3 (Box6.new w (.bool false) (.bool false) (.slice none 0 0) (.bool false) (.bool false) (.slice none 0 0) 29) (iof_good (w := w.alloc (.cells #[.bool false, .bool false, .slice none 0 0, .bool false, .bool false, .slice none 0 0] 29)) hx hy h) hB0
 clear hx hy h hB0
 generalize nLo x = n0 at *
 generalize nHi y = n1 at *
 generalize lE x = l0 at *
 generalize sE x = s0 at *
 generalize lE y = l1 at *
 generalize sE y = s1 at *
 go_enter Tryz.func39, Tryz.ntmps39
 go_wp2_with fail
 refine HO.out.mono ?_
 rintro e w1 ⟨A1, c1, B1, d1, rfl, o1, o2, hc⟩
 have hax := (Below.refl w1.heap.size w1).alloc (Nat.le_refl _) (.cells #[.bool n0, .bool s0, .slice A1 l0.length c1, .bool n1, .bool s1, .slice B1 l1.length d1] 29)
 have R := (HR.out.below hc).below hax
 have hz := HR.out.lt
 obtain ⟨HP, U1, U2⟩ := hid3 (R.put (w := w) (from_ (from_ Hb0.out hc) hax) (Nat.le_refl _) (.bool n0) (.bool s0) (.slice A1 l0.length c1) (.bool n1) (.bool s1) (.slice B1 l1.length d1)) (((o1.below hax).set6 (g := w.heap.size) (fun (h : _ ≤ w.heap.size) => by omega) (.bool n0) (.bool s0) (.slice A1 l0.length c1) (.bool n1) (.bool s1) (.slice B1 l1.length d1)).mono (new_le Hb0.out.size)) (((o2.below hax).set6 (g := w.heap.size) (fun (h : _ ≤ w.heap.size) => by omega) (.bool n0) (.bool s0) (.slice A1 l0.length c1) (.bool n1) (.bool s1) (.slice B1 l1.length d1)).mono (new_le Hb0.out.size))
 obtain ⟨m0, m1, m2, m3, m4, m5, _, _, _, _, _, _, _⟩ := Box6.new w1 (.bool n0) (.bool s0) (.slice A1 l0.length c1) (.bool n1) (.bool s1) (.slice B1 l1.length d1) 29
 have g0 := R.cf
 clear o1 o2 hc hax hz
 go_wp2
 refine bodyPost_ret (res_itv rfl _ w.heap.size rfl HP.out.box) rfl ?_
 exact ⟨_, _, _, _, rfl, U1.out, U2.out, HP.out.bel⟩
theorem lbetween_r (hr : IvW (x, y) r) (hx : -9223372036854775808 ≤ x ∧ x ≤ 9223372036854775807) (hy : -9223372036854775808 ≤ y ∧ y ≤ 9223372036854775807) (h : x ≤ y) :
  Calls Tryz.prog 39 #[.int .i64 x, .int .i64 y] w fun e w' => ∃ A c B d, e = .returned (.agg #[.bool r.n0, .bool r.s0, .slice A r.l0.length c, .bool r.n1, .bool r.s1, .slice B r.l1.length d]) ∧ U64s w' (new w.heap.size) A c r.l0 ∧ U64s w' (new w.heap.size) B d r.l1 ∧ Below w.heap.size w w' := by
 obtain rfl := hr.uniq (IvW.mk (x, y))
 exact lbetween_w hx hy h
def allP : IvP := (-9223372036854775808, 9223372036854775807)
theorem lall_r (hr : IvW allP r) :
  Calls Tryz.prog 36 #[] w fun e w' => ∃ A c B d, e = .returned (.agg #[.bool r.n0, .bool r.s0, .slice A r.l0.length c, .bool r.n1, .bool r.s1, .slice B r.l1.length d]) ∧ U64s w' (new w.heap.size) A c r.l0 ∧ U64s w' (new w.heap.size) B d r.l1 ∧ Below w.heap.size w w' := by
 have hB0 : Below w.heap.size w (w.alloc (.cells #[.bool false, .bool false, .slice none 0 0, .bool false, .bool false, .slice none 0 0] 29)) := (Below.refl _ w).alloc (Nat.le_refl _) _
 obtain ⟨HR, HO, Hb0⟩ := hid3 (Box6.new w (.bool false) (.bool false) (.slice none 0 0) (.bool false) (.bool false) (.slice none 0 0) 29) (lbetween_r (w := w.alloc (.cells #[.bool false, .bool false, .slice none 0 0, .bool false, .bool false, .slice none 0 0] 29)) hr (by decide) (by decide) (by decide)) hB0
 clear hB0 hr
 go_enter Tryz.func36, Tryz.ntmps36
 go_wp2_with fail
 refine HO.out.mono ?_
 rintro e w1 ⟨A1, c1, B1, d1, rfl, o1, o2, hc⟩
 have R := HR.out.below hc
 have hz := HR.out.lt
 obtain ⟨HP, U1, U2⟩ := hid3 (R.put (w := w) (from_ Hb0.out hc) (Nat.le_refl _) (.bool r.n0) (.bool r.s0) (.slice A1 r.l0.length c1) (.bool r.n1) (.bool r.s1) (.slice B1 r.l1.length d1)) ((o1.set6 (g := w.heap.size) (fun (h : _ ≤ w.heap.size) => by omega) (.bool r.n0) (.bool r.s0) (.slice A1 r.l0.length c1) (.bool r.n1) (.bool r.s1) (.slice B1 r.l1.length d1)).mono (new_le Hb0.out.size)) ((o2.set6 (g := w.heap.size) (fun (h : _ ≤ w.heap.size) => by omega) (.bool r.n0) (.bool r.s0) (.slice A1 r.l0.length c1) (.bool r.n1) (.bool r.s1) (.slice B1 r.l1.length d1)).mono (new_le Hb0.out.size))
 have g0 := R.cf
 clear o1 o2 hc hz
 go_wp2
 refine bodyPost_ret (res_itv rfl _ w.heap.size rfl HP.out.box) rfl ?_
 exact ⟨_, _, _, _, rfl, U1.out, U2.out, HP.out.bel⟩
theorem lconst_goodN {p : Iv} {B : Option Addr} (hd : d ≤ 63) (hp : IvW P p) (gp : IvN N P.1 P.2) (hN : N ≤ 60) (u1 : U64s w Z1 A a p.l0) (u2 : U64s w Z2 B b p.l1) :
  Calls Tryz.prog 60 #[.int .i64 (d : Int), .agg #[.bool p.n0, .bool p.s0, .slice A p.l0.length a, .bool p.n1, .bool p.s1, .slice B p.l1.length b]] w fun e w' => ∃ Av cv, e = .returned (.tuple #[.slice Av (d + 1) cv, .int .i64 0]) ∧ IvsAt w' (new w.heap.size) Av cv ((List.replicate (d + 1) nullI).set 0 p) ∧ Below w.heap.size w w' ∧ NewA w.heap.size Av := by
 obtain ⟨i0, hi, hz0, hz1, hz2⟩ := info_parts infoIv
 have hB0 : Below w.heap.size w (w.alloc (.cells #[.bool p.n0, .bool p.s0, .slice A p.l0.length a, .bool p.n1, .bool p.s1, .slice B p.l1.length b] 29)) := (Below.refl _ w).alloc (Nat.le_refl _) _
 have HG := hid (Box6.new w (.bool p.n0) (.bool p.s0) (.slice A p.l0.length a) (.bool p.n1) (.bool p.s1) (.slice B p.l1.length b) 29)
 have kp := hp.k gp (by omega)
 have hodd := lodd_any (u1.below hB0) (u2.below hB0) ⟨by have := kp.q0; omega, by have := kp.q1; omega⟩
 rw [show (!p.ok) = false by have h : p.ok = true := kp.ok; rw [h]; rfl] at hodd
 obtain ⟨HJ, HO, Hb0⟩ := hid3 (fun (W : World) (h : Below w.heap.size w W) => ijoin_w hp gp hN (u1.below h) (u2.below h) (u1.below h) (u2.below h)) hodd hB0
 have g1 : decide ((d : Int) < 0) = false := decide_eq_false (by omega)
 have g2 : decide ((63 : Int) < (d : Int)) = false := decide_eq_false (by omega)
 have g2' : decide (63 < d) = false := decide_eq_false (by omega)
 have hw1 : IntKind.i64.wrap ((d : Int) + 1) = ((d + 1 : Nat) : Int) := by rw [IntKind.wrap_i64]; omega
 have hi3 : 0 < d + 1 := by omega
 have hi2 : (0 : Int) < ((d + 1 : Nat) : Int) := by omega
 clear hodd hB0 u1 u2 hp gp kp
 have z0 := HG.out.all
 go_enter Tryz.func60, Tryz.ntmps60
 go_wp2_with fail
 refine HO.out.mono ?_
 rintro e w1 ⟨rfl, hc⟩
 have H1 := hid (from_ Hb0.out hc)
 have hc1 := H1.out.size
 replace HG := hid (HG.out.below hc)
 clear z0 hc
 go_wp2_with (at_make; go_loud (refine wpList_make_full _ rfl _ _ 31 rfl w.heap.size 29 i0 (.agg #[.bool false, .bool false, .slice none 0 0, .bool false, .bool false, .slice none 0 0]) 6 Tryz.underlying31 hi hz0 hz1 .i64 .i64 _ _ (d + 1) rfl rfl rfl rfl (by rw [hz2]; omega) (by simp only [maxLen]; omega) hc1 ?_); intro w2 hown hgrow; obtain ⟨y0, y1, y2, y3, y4, y5, _, _, _, _, _, _, _⟩ := HG.out.below ((Below.refl _ w1).grown hgrow (Nat.le_refl _) (fun k h => by cases h)))
 have hb0 : Below w1.heap.size w1 w2 := (Below.refl _ w1).grown hgrow (Nat.le_refl _) (fun k h => by cases h)
 have ho0 := OwnIv.zero hown rfl
 generalize (madeCells (Value.agg #[.bool false, .bool false, .slice none 0 0, .bool false, .bool false, .slice none 0 0]).cells ((d + 1) * 6)).toList = xs0 at *
 replace HO := hid ho0
 replace HG := hid (HG.out.below hb0)
 have H2 := hid (from_ H1.out hb0)
 clear hown ho0 hgrow hb0
 obtain ⟨g, hg⟩ : ∃ g, g = w1.heap.size := ⟨_, rfl⟩
 have hge : w.heap.size ≤ g := by omega
 have HGE := hid hge
 rw [← hg] at HO
 simp only [← hg]
 refine (HJ.out _ H2.out).mono ?_
 rintro e w3 ⟨A3, d3, B3, e3, rfl, u1, u2, hc⟩
 have hO := HO.out.below hc
 have hgl := HO.out.lt
 obtain ⟨x0, x1, x2, x3, x4, x5, ⟨c0, c1, c2, c3, c4, c5⟩, f0, f1, f2, f3, f4, f5⟩ := hO.at hi3
 obtain ⟨HS, HB⟩ := hid2 ((hO.set hi3 (u1.mono (new_le hgl.2)) (u2.mono (new_le hgl.2))).fin (B' := w.heap.size) (by omega) (by omega)) (((((((from_ H2.out hc).setCell (p := ⟨g, 0 * 6, none⟩) hge (.bool p.n0)).setCell (p := ⟨g, 0 * 6 + 1, none⟩) hge (.bool p.s0)).setCell (p := ⟨g, 0 * 6 + 2, none⟩) hge (.slice A3 p.l0.length d3)).setCell (p := ⟨g, 0 * 6 + 3, none⟩) hge (.bool p.n1)).setCell (p := ⟨g, 0 * 6 + 4, none⟩) hge (.bool p.s1)).setCell (p := ⟨g, 0 * 6 + 5, none⟩) hge (.slice B3 p.l1.length e3))
 simp only [Nat.zero_mul, Nat.zero_add] at c0 c1 c2 c3 c4 c5 f0 f1 f2 f3 f4 f5 HS HB
 clear hO u1 u2 hc HO hg hgl hc1 y0 y1 y2 y3 y4 y5 HJ H1 H2 HG
 go_wp2
 go_ret2
 exact ⟨_, _, rfl, HS.out, HB.out, fun b o e => by injection e with e; injection e with e _; have := HGE.out; omega⟩
theorem sindex_first {o n : Nat} (h : w.cell? ⟨b, o, none⟩ = some (.int .i64 x)) (hn : 1 ≤ n) (hm : n ≤ 9223372036854775807) :
  Calls Tryz.prog 40 #[.slice (some ⟨b, o, none⟩) n c, .int .i64 x] w fun e w' => e = .returned (.int .i64 0) ∧ w = w' := by
 have h0 : w.cell? ⟨b, o + 0, none⟩ = some (.int .i64 x) := h
 have t0 : (x == x) = true := beq_self_eq_true _
 go_enter Tryz.func40, Tryz.ntmps40
 go_wp2
 go_loopw [8] (fun i wr => i = .int .i64 0 ∧ wr = w) (fun i _ => 0)
 case atStart => exact ⟨rfl, rfl⟩
 case round =>
  obtain ⟨rfl, rfl⟩ := hrel
  have hp : (0 : Int) < (n : Int) := by omega
  go_wp2
  go_ret
  exact ⟨rfl, rfl⟩
theorem NoU.one {u : Value} (h : NoU w g) (hc : w.cell? ⟨g, j, none⟩ = some u) (hv : ∀ n, v ≠ .int .u64 n) : NoU (w.setCell ⟨g, j, none⟩ v) g := fun o m e => by
 by_cases ho : o = j
 · subst ho
   rw [World.cell?_setCell_same _ _ _ hc] at e
   injection e with e
   exact hv _ e
 · rw [World.cell?_setCell_other _ _ _ _ (fun h => ho (by injection h with _ h; exact h.symm))] at e
   exact h o m e
theorem NoU.own6 (h : NoU w g) (hb : Box6 w g a0 a1 a2 a3 a4 a5) (n0 s0 n1 s1 : Bool) (A B : Option Addr) (a c b d : Nat) : NoU ((((((w.setCell ⟨g, 0, none⟩ (.bool n0)).setCell ⟨g, 1, none⟩ (.bool s0)).setCell ⟨g, 2, none⟩ (.slice A a c)).setCell ⟨g, 3, none⟩ (.bool n1)).setCell ⟨g, 4, none⟩ (.bool s1)).setCell ⟨g, 5, none⟩ (.slice B b d)) g :=
 ((((((h.one (((BoxL.of6 hb)).c 0 _ rfl) (v := (.bool n0)) (fun n e => by cases e)).one ((((BoxL.of6 hb).set 0 (.bool n0) rfl)).c 1 _ rfl) (v := (.bool s0)) (fun n e => by cases e)).one (((((BoxL.of6 hb).set 0 (.bool n0) rfl).set 1 (.bool s0) rfl)).c 2 _ rfl) (v := (.slice A a c)) (fun n e => by cases e)).one ((((((BoxL.of6 hb).set 0 (.bool n0) rfl).set 1 (.bool s0) rfl).set 2 (.slice A a c) rfl)).c 3 _ rfl) (v := (.bool n1)) (fun n e => by cases e)).one (((((((BoxL.of6 hb).set 0 (.bool n0) rfl).set 1 (.bool s0) rfl).set 2 (.slice A a c) rfl).set 3 (.bool n1) rfl)).c 4 _ rfl) (v := (.bool s1)) (fun n e => by cases e)).one ((((((((BoxL.of6 hb).set 0 (.bool n0) rfl).set 1 (.bool s0) rfl).set 2 (.slice A a c) rfl).set 3 (.bool n1) rfl).set 4 (.bool s1) rfl)).c 5 _ rfl) (v := (.slice B b d)) (fun n e => by cases e))
theorem NoU.new6 (w : World) (n0 s0 n1 s1 : Bool) (A B : Option Addr) (a c b d : Nat) (t : TypeId) : NoU (w.alloc (.cells #[.bool n0, .bool s0, .slice A a c, .bool n1, .bool s1, .slice B b d] t)) w.heap.size := fun o m e => by
 have h := cell_of_row (w.alloc (.cells #[.bool n0, .bool s0, .slice A a c, .bool n1, .bool s1, .slice B b d] t)) w.heap.size o #[.bool n0, .bool s0, .slice A a c, .bool n1, .bool s1, .slice B b d] t (0, 0) (heap_alloc_new w _)
 rw [h] at e
 match o, e with
 | 0, e => cases e
 | 1, e => cases e
 | 2, e => cases e
 | 3, e => cases e
 | 4, e => cases e
 | 5, e => cases e
 | o + 6, e => simp at e
theorem NoU.newB (w : World) (n s : Bool) (A : Option Addr) (a c : Nat) (t : TypeId) : NoU (w.alloc (.cells #[.bool n, .bool s, .slice A a c] t)) w.heap.size := fun o m e => by
 have h := cell_of_row (w.alloc (.cells #[.bool n, .bool s, .slice A a c] t)) w.heap.size o #[.bool n, .bool s, .slice A a c] t (0, 0) (heap_alloc_new w _)
 rw [h] at e
 match o, e with
 | 0, e => cases e
 | 1, e => cases e
 | 2, e => cases e
 | o + 3, e => simp at e
theorem U64s.set6n {l : List Nat} (u : U64s w Z A c l) (h : NoU w g) (x0 x1 x2 x3 x4 x5 : Value) : U64s ((((((w.setCell ⟨g, 0, none⟩ x0).setCell ⟨g, 1, none⟩ x1).setCell ⟨g, 2, none⟩ x2).setCell ⟨g, 3, none⟩ x3).setCell ⟨g, 4, none⟩ x4).setCell ⟨g, 5, none⟩ x5) old A c l :=
 ((u.offB h).set6 (g := g) (fun h => h rfl) x0 x1 x2 x3 x4 x5).mono (le_old _)
theorem d12_keep {V : World} (hs : (C6 W g a0 a1 a2 a3 a4 a5) ∧ C6 W h b0 b1 b2 b3 b4 b5) (hb : Below W.heap.size W V) : (C6 V g a0 a1 a2 a3 a4 a5) ∧ C6 V h b0 b1 b2 b3 b4 b5 := ⟨box6_keep hs.1 hb, box6_keep hs.2 hb⟩
theorem d12_st6 {r : Nat} (hg : r ≠ g) (hh : r ≠ h) (hs : (C6 W g a0 a1 a2 a3 a4 a5) ∧ C6 W h b0 b1 b2 b3 b4 b5) : (((((((W.setCell ⟨r, 0, none⟩ x0).setCell ⟨r, 1, none⟩ x1).setCell ⟨r, 2, none⟩ x2).setCell ⟨r, 3, none⟩ x3).setCell ⟨r, 4, none⟩ x4).setCell ⟨r, 5, none⟩ x5).cell? ⟨g, 0, none⟩ = some a0 ∧ ((((((W.setCell ⟨r, 0, none⟩ x0).setCell ⟨r, 1, none⟩ x1).setCell ⟨r, 2, none⟩ x2).setCell ⟨r, 3, none⟩ x3).setCell ⟨r, 4, none⟩ x4).setCell ⟨r, 5, none⟩ x5).cell? ⟨g, 1, none⟩ = some a1 ∧ ((((((W.setCell ⟨r, 0, none⟩ x0).setCell ⟨r, 1, none⟩ x1).setCell ⟨r, 2, none⟩ x2).setCell ⟨r, 3, none⟩ x3).setCell ⟨r, 4, none⟩ x4).setCell ⟨r, 5, none⟩ x5).cell? ⟨g, 2, none⟩ = some a2 ∧ ((((((W.setCell ⟨r, 0, none⟩ x0).setCell ⟨r, 1, none⟩ x1).setCell ⟨r, 2, none⟩ x2).setCell ⟨r, 3, none⟩ x3).setCell ⟨r, 4, none⟩ x4).setCell ⟨r, 5, none⟩ x5).cell? ⟨g, 3, none⟩ = some a3 ∧ ((((((W.setCell ⟨r, 0, none⟩ x0).setCell ⟨r, 1, none⟩ x1).setCell ⟨r, 2, none⟩ x2).setCell ⟨r, 3, none⟩ x3).setCell ⟨r, 4, none⟩ x4).setCell ⟨r, 5, none⟩ x5).cell? ⟨g, 4, none⟩ = some a4 ∧ ((((((W.setCell ⟨r, 0, none⟩ x0).setCell ⟨r, 1, none⟩ x1).setCell ⟨r, 2, none⟩ x2).setCell ⟨r, 3, none⟩ x3).setCell ⟨r, 4, none⟩ x4).setCell ⟨r, 5, none⟩ x5).cell? ⟨g, 5, none⟩ = some a5) ∧ ((((((W.setCell ⟨r, 0, none⟩ x0).setCell ⟨r, 1, none⟩ x1).setCell ⟨r, 2, none⟩ x2).setCell ⟨r, 3, none⟩ x3).setCell ⟨r, 4, none⟩ x4).setCell ⟨r, 5, none⟩ x5).cell? ⟨h, 0, none⟩ = some b0 ∧ ((((((W.setCell ⟨r, 0, none⟩ x0).setCell ⟨r, 1, none⟩ x1).setCell ⟨r, 2, none⟩ x2).setCell ⟨r, 3, none⟩ x3).setCell ⟨r, 4, none⟩ x4).setCell ⟨r, 5, none⟩ x5).cell? ⟨h, 1, none⟩ = some b1 ∧ ((((((W.setCell ⟨r, 0, none⟩ x0).setCell ⟨r, 1, none⟩ x1).setCell ⟨r, 2, none⟩ x2).setCell ⟨r, 3, none⟩ x3).setCell ⟨r, 4, none⟩ x4).setCell ⟨r, 5, none⟩ x5).cell? ⟨h, 2, none⟩ = some b2 ∧ ((((((W.setCell ⟨r, 0, none⟩ x0).setCell ⟨r, 1, none⟩ x1).setCell ⟨r, 2, none⟩ x2).setCell ⟨r, 3, none⟩ x3).setCell ⟨r, 4, none⟩ x4).setCell ⟨r, 5, none⟩ x5).cell? ⟨h, 3, none⟩ = some b3 ∧ ((((((W.setCell ⟨r, 0, none⟩ x0).setCell ⟨r, 1, none⟩ x1).setCell ⟨r, 2, none⟩ x2).setCell ⟨r, 3, none⟩ x3).setCell ⟨r, 4, none⟩ x4).setCell ⟨r, 5, none⟩ x5).cell? ⟨h, 4, none⟩ = some b4 ∧ ((((((W.setCell ⟨r, 0, none⟩ x0).setCell ⟨r, 1, none⟩ x1).setCell ⟨r, 2, none⟩ x2).setCell ⟨r, 3, none⟩ x3).setCell ⟨r, 4, none⟩ x4).setCell ⟨r, 5, none⟩ x5).cell? ⟨h, 5, none⟩ = some b5 := ⟨box6_st6 hg hs.1, box6_st6 hh hs.2⟩
end Go.Proofs.YtcheajjjdbllfaaGreat
