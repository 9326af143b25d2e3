/- Linear forms, the document's: Parts and Split of forms given by their ends' numbers. No conditions but bounds on lengths. -/
import Derived.Deep.RegionHeld3
import Derived.Test.YthpngihjcphigaaGreatVTelC
import Derived.Test.YthpngihjcphigaaGreatVLinU
import Derived.Test.YthpngihjcphigaaGreatVLvA
import Derived.Test.YthpngihjcphigaaGreatVTelL
import Derived.Test.YthpngihjcphigaaGreatVHeldL
import Derived.Test.YthpngihjcphigaaGreatVFenceR
import Derived.Test.YthpngihjcphigaaGreatVLvB
import Derived.Test.YthpngihjcphigaaGreatVLinJ
import Derived.Test.YthpngihjcphigaaGreatVWhV
set_option linter.unusedVariables false
set_option linter.unusedSimpArgs false
set_option maxRecDepth 100000
set_option maxHeartbeats 40000000
namespace Go.Proofs.YthpngihjcphigaaGreat
open Go.Lib (hid)
open Go.RowKit
variable {A B : Option Addr} {Y Z : Zone} {c d : Nat} {l : List Nat} {r : Iv} {s : Bool} {v : Value} {w w' : World} {x : Int} {xs : List Value}
theorem ext_num {N : Nat} (h : Ext bigZ (wN N) x) (h1 : -bigZ < x) (h2 : x < bigZ) : -wN N < x ∧ x < wN N := by
 rcases h with h | h | h
 · omega
 · omega
 · exact h
theorem nm_len_add' {y : Int} {t r : Bool} {k m : List Nat} (h1 : Nm x s l) (h2 : Nm y t k) (h3 : Nm (x + y) r m) (q1 : l.length ≤ 8) (q2 : k.length ≤ 8) : m.length ≤ 9 := by
 have b1 := nm_bound h1 q1
 have b2 := nm_bound h2 q2
 have e : wN 9 = wN 8 * 18446744073709551616 := Int.pow_succ _ _
 have p : 0 < wN 8 := by decide
 refine nm_lenN h3 ⟨?_, ?_⟩ <;> (generalize wN 8 = u at *; generalize wN 9 = v at *; omega)
theorem two_noW {a : Nat} : ∀ u ∈ [Value.bool s, .slice A a c], noW u := by
 intro u hu n
 simp at hu
 rcases hu with rfl | rfl <;> simp
def NumsO (w : World) (v : Value) (xs : List Value) (zs : List Int) : Prop :=
 ∀ j (hj : j < zs.length), ∃ s l A c, xs[j * 2]? = some (.bool s) ∧ xs[j * 2 + 1]? = some (.slice A (l : List Nat).length c) ∧ U64s w (notOwn v) A c l ∧ Nm zs[j] s l
theorem NumsO.below {zs : List Int} (h : NumsO w v xs zs) (hb : Below w.heap.size w w') : NumsO w' v xs zs := fun j hj => by
 obtain ⟨s, l, A, c, h0, h1, hu, hn⟩ := h j hj
 exact ⟨s, l, A, c, h0, h1, hu.below hb, hn⟩
theorem NumsO.snoc {v' : Value} {zs : List Int} {z : Int} (h : NumsO w v xs zs) (hl : xs.length = zs.length * 2) (hg : w.grownBy w' v.ownBlock) (hf : Fresh w v v') (hu : U64s w (notOwn v) A c l) (hn : Nm z s l) :
  NumsO w' v' (xs ++ [.bool s, .slice A l.length c]) (zs ++ [z]) := fun j hj => by
 rw [List.length_append, List.length_singleton] at hj
 by_cases hj2 : j < zs.length
 · obtain ⟨s', l', A', c', h0, h1, hu', hn'⟩ := h j hj2
   refine ⟨s', l', A', c', ?_, ?_, hu'.growO hg hf, ?_⟩
   · rw [List.getElem?_append_left (by omega)]; exact h0
   · rw [List.getElem?_append_left (by omega)]; exact h1
   · rw [List.getElem_append_left hj2]; exact hn'
 · obtain rfl : j = zs.length := by omega
   refine ⟨s, l, A, c, ?_, ?_, hu.growO hg hf, ?_⟩
   · rw [List.getElem?_append_right (by omega), hl, Nat.sub_self]; rfl
   · rw [List.getElem?_append_right (by omega), hl, show zs.length * 2 + 1 - zs.length * 2 = 1 by omega]; rfl
   · rw [List.getElem_append_right (by omega)]; simpa using hn
theorem NumsO.fin {B : Nat} {zs : List Int} {e : TypeId} (h : NumsO w v xs zs) (hown : w.ownsRow B e 2 v zs.length xs) : IsVec w old v (encI zs) := by
 obtain ⟨A2, c2, e2⟩ := own_shape hown
 have hcase := hown.2
 rcases hcase with ⟨e1, h0⟩ | ⟨g, cap, cur, e1, hB, hh, hcap, hm, _⟩
 · have hq : zs = [] := List.eq_nil_of_length_eq_zero h0
   subst hq
   exact ⟨none, 0, e1, VecAt.nil _ _⟩
 · subst e1
   refine ⟨some ⟨g, 0, none⟩, cap, by rw [encI_len], by rw [encI_len]; exact hcap, by simpa [maxLen] using hm, fun h0 => ⟨g, 0, rfl, trivial, (hown.lt g rfl).2, fun h => h.elim, fun j hj => ?_⟩⟩
   have hj' : j < zs.length := by rw [← encI_len]; exact hj
   obtain ⟨s, l, A, c, c0, c1, hu, hn⟩ := h j hj'
   obtain ⟨rfl, rfl⟩ := hn
   rw [encI_get hj hj']
   exact ⟨A, c, by rw [Nat.zero_add, hown.cellAt (j * 2) (by omega)]; exact c0, by rw [Nat.zero_add, hown.cellAt (j * 2 + 1) (by omega)]; exact c1, hu.mono (le_old _)⟩
section
variable {W V : World} {g h B n : Nat} {r : Iv} {v v' : Value} {xs : List Value} {zs : List Int} {E F C : Option Addr} {e f c : Nat} {s : Bool} {l : List Nat}
theorem Box6.hp {a0 a1 a2 a3 a4 a5 : Value} (H : Box6 W g a0 a1 a2 a3 a4 a5) (hh : V.heap[g]? = W.heap[g]?) (hs : W.heap.size ≤ V.heap.size) : Box6 V g a0 a1 a2 a3 a4 a5 :=
 ⟨(World.cell?_of_block (a := ⟨g, 0, none⟩) hh).trans H.c0, (World.cell?_of_block (a := ⟨g, 1, none⟩) hh).trans H.c1, (World.cell?_of_block (a := ⟨g, 2, none⟩) hh).trans H.c2, (World.cell?_of_block (a := ⟨g, 3, none⟩) hh).trans H.c3, (World.cell?_of_block (a := ⟨g, 4, none⟩) hh).trans H.c4, (World.cell?_of_block (a := ⟨g, 5, none⟩) hh).trans H.c5,
  (World.frozen?_of_block (a := ⟨g, 0, none⟩) hh).trans H.f0, (World.frozen?_of_block (a := ⟨g, 1, none⟩) hh).trans H.f1, (World.frozen?_of_block (a := ⟨g, 2, none⟩) hh).trans H.f2, (World.frozen?_of_block (a := ⟨g, 3, none⟩) hh).trans H.f3, (World.frozen?_of_block (a := ⟨g, 4, none⟩) hh).trans H.f4, (World.frozen?_of_block (a := ⟨g, 5, none⟩) hh).trans H.f5, Nat.lt_of_lt_of_le H.lt hs⟩
theorem NoU.hp (H : NoU W g) (hh : V.heap[g]? = W.heap[g]?) : NoU V g := fun o m e => H o m ((World.cell?_of_block (a := ⟨g, o, none⟩) hh).symm.trans e)
theorem U64s.rowG {Z : Zone} (u : U64s W Z C c l) (hN : RowN W v) (hg : W.grownBy V v.ownBlock) : U64s V old C c l :=
 ((u.notOwn hN).keep fun b hb hl => hg.block b hl (fun e => hb e.symm)).mono (le_old _)
theorem BX.rowG (H : BX W g r E e F f) (hg : W.grownBy V v.ownBlock) (hN : RowN W v) (hv : v.ownBlock ≠ some g) : BX V g r E e F f :=
 have hh := hg.block g H.box.lt (fun e => hv e.symm)
 ⟨H.box.hp hh hg.size, H.noU.hp hh, H.u0.rowG hN hg, H.u1.rowG hN hg⟩
theorem BM.rowG (H : BM W g s l C c) (hg : W.grownBy V v.ownBlock) (hN : RowN W v) (hv : v.ownBlock ≠ some g) : BM V g s l C c :=
 have hh := hg.block g H.box.lt (fun e => hv e.symm)
 ⟨⟨(World.cell?_of_block (a := ⟨g, 0, none⟩) hh).trans H.box.c0, (World.cell?_of_block (a := ⟨g, 1, none⟩) hh).trans H.box.c1, (World.frozen?_of_block (a := ⟨g, 0, none⟩) hh).trans H.box.f0, (World.frozen?_of_block (a := ⟨g, 1, none⟩) hh).trans H.box.f1, Nat.lt_of_lt_of_le H.box.lt hg.size⟩, H.noU.hp hh, H.u.rowG hN hg⟩
structure PS (W : World) (B g : Nat) (v : Value) (n : Nat) (xs : List Value) (zs : List Int) : Prop where
 own : W.ownsRow B 25 2 v n xs
 len : zs.length = n
 noU : RowN W v
 nums : NumsO W v xs zs
 off : v.ownBlock ≠ some g
theorem PS.below (H : PS W B g v n xs zs) (hb : Below W.heap.size W V) : PS V B g v n xs zs := ⟨own_below H.own hb, H.len, H.noU.below H.own hb, H.nums.below hb, H.off⟩
theorem PS.st6 (H : PS W B g v n xs zs) (N : NoU W h) (hv : v.ownBlock ≠ some h) (x0 x1 x2 x3 x4 x5 : Value) : PS ((((((W.setCell ⟨h, 0, none⟩ x0).setCell ⟨h, 1, none⟩ x1).setCell ⟨h, 2, none⟩ x2).setCell ⟨h, 3, none⟩ x3).setCell ⟨h, 4, none⟩ x4).setCell ⟨h, 5, none⟩ x5) B g v n xs zs := by
 have hk : ∀ b, v.ownBlock = some b → ((((((W.setCell ⟨h, 0, none⟩ x0).setCell ⟨h, 1, none⟩ x1).setCell ⟨h, 2, none⟩ x2).setCell ⟨h, 3, none⟩ x3).setCell ⟨h, 4, none⟩ x4).setCell ⟨h, 5, none⟩ x5).heap[b]? = W.heap[b]? := fun b hb => by
  have hne : b ≠ h := fun e => hv (by rw [hb, e])
  rw [Below.heap_setCell _ _ _ _ hne, Below.heap_setCell _ _ _ _ hne, Below.heap_setCell _ _ _ _ hne, Below.heap_setCell _ _ _ _ hne, Below.heap_setCell _ _ _ _ hne, Below.heap_setCell _ _ _ _ hne]
 have hR : RowN ((((((W.setCell ⟨h, 0, none⟩ x0).setCell ⟨h, 1, none⟩ x1).setCell ⟨h, 2, none⟩ x2).setCell ⟨h, 3, none⟩ x3).setCell ⟨h, 4, none⟩ x4).setCell ⟨h, 5, none⟩ x5) v := fun b hb => (H.noU b hb).hp (hk b hb)
 refine ⟨⟨H.own.1, ?_⟩, H.len, hR, fun j hj => ?_, H.off⟩
 · rcases H.own.2 with h | ⟨g', cap, cur, e1, hB, hh, h⟩
   · exact .inl h
   · exact .inr ⟨g', cap, cur, e1, hB, (hk g' (by rw [e1]; rfl)).trans hh, h⟩
 · obtain ⟨s, l, A, c, h0, h1, hu, hn⟩ := H.nums j hj
   exact ⟨s, l, A, c, h0, h1, (hu.set6n N x0 x1 x2 x3 x4 x5).notOwn hR, hn⟩
theorem PS.st2 (H : PS W B g v n xs zs) (N : NoU W h) (hv : v.ownBlock ≠ some h) (x0 x1 : Value) : PS ((W.setCell ⟨h, 0, none⟩ x0).setCell ⟨h, 1, none⟩ x1) B g v n xs zs := by
 have hk : ∀ b, v.ownBlock = some b → ((W.setCell ⟨h, 0, none⟩ x0).setCell ⟨h, 1, none⟩ x1).heap[b]? = W.heap[b]? := fun b hb => by
  have hne : b ≠ h := fun e => hv (by rw [hb, e])
  rw [Below.heap_setCell _ _ _ _ hne, Below.heap_setCell _ _ _ _ hne]
 have hR : RowN ((W.setCell ⟨h, 0, none⟩ x0).setCell ⟨h, 1, none⟩ x1) v := fun b hb => (H.noU b hb).hp (hk b hb)
 refine ⟨⟨H.own.1, ?_⟩, H.len, hR, fun j hj => ?_, H.off⟩
 · rcases H.own.2 with h | ⟨g', cap, cur, e1, hB, hh, h⟩
   · exact .inl h
   · exact .inr ⟨g', cap, cur, e1, hB, (hk g' (by rw [e1]; rfl)).trans hh, h⟩
 · obtain ⟨s, l, A, c, h0, h1, hu, hn⟩ := H.nums j hj
   exact ⟨s, l, A, c, h0, h1, (hu.set2n N x0 x1).notOwn hR, hn⟩
theorem PS.snoc {z : Int} {Z : Zone} (H : PS W B g v n xs zs) (ho : V.ownsRow B 25 2 v' (n + 1) (xs ++ [.bool s, .slice C l.length c])) (hg : W.grownBy V v.ownBlock) (hf : Fresh W v v') (hN : RowN V v') (u : U64s W Z C c l) (hn : Nm z s l) (hl : g < W.heap.size) : PS V B g v' (n + 1) (xs ++ [.bool s, .slice C l.length c]) (zs ++ [z]) :=
 ⟨ho, by rw [List.length_append, H.len]; rfl, hN, H.nums.snoc (by rw [H.own.1, H.len]) hg hf (u.notOwn H.noU) hn, fun e => by
  rcases hf with h | h
  · exact H.off (h.symm.trans e)
  · have := h g e; omega⟩
theorem PS.fin (H : PS W B g v n xs zs) : ∃ A c, v = .slice A n c ∧ VecAt W old A c (encI zs) ∧ ∀ b o, A = some ⟨b, o, none⟩ → B ≤ b := by
 have ho := H.own
 rw [← H.len] at ho
 obtain ⟨A, c, e, h⟩ := H.nums.fin ho
 exact ⟨A, c, by rw [e, encI_len, H.len], h, fun b o e2 => (ho.lt b (by rw [e, e2]; rfl)).1⟩
theorem VecAt.st6n {ps : List (Bool × List Nat)} (H : VecAt W old C c ps) (N : NoU W g) (hv : ∀ b o, C = some ⟨b, o, none⟩ → b ≠ g) (x0 x1 x2 x3 x4 x5 : Value) : VecAt ((((((W.setCell ⟨g, 0, none⟩ x0).setCell ⟨g, 1, none⟩ x1).setCell ⟨g, 2, none⟩ x2).setCell ⟨g, 3, none⟩ x3).setCell ⟨g, 4, none⟩ x4).setCell ⟨g, 5, none⟩ x5) old C c ps := by
 refine ⟨H.cap, H.max, fun h0 => ?_⟩
 obtain ⟨b, o, e, h1, h2, _, h3⟩ := H.row h0
 have hne := hv b o e
 refine ⟨b, o, e, trivial, by simpa using h2, fun h => h.elim, fun j hj => ?_⟩
 obtain ⟨B, d, c0, c1, u⟩ := h3 j hj
 exact ⟨B, d, st6 c0 hne.symm, st6 c1 hne.symm, u.set6n N x0 x1 x2 x3 x4 x5⟩
theorem PS.lit (W : World) (hg : g = W.heap.size + 1) : PS (W.alloc (.cells #[.bool false, .slice none 0 0] 25)) W.heap.size g (.slice (some ⟨W.heap.size, 0, none⟩) 1 1) 1 [.bool false, .slice none 0 0] [0] :=
 ⟨World.ownsRow_lit W #[.bool false, .slice none 0 0] 1 (Nat.le_refl _) (by decide) rfl, rfl, fun b hb => by injection hb with hb; subst hb; exact NoU.newM W _ _ _ _ _, fun j hj => by
  obtain rfl : j = 0 := by simp at hj; omega
  exact ⟨false, [], none, 0, rfl, rfl, U64s.nil _ _, rfl, rfl⟩, fun e => by
  have e2 : W.heap.size = g := by injection e
  omega⟩
end
theorem res_parts {fn : Func} {p q : Tmp} (h : fn.results = #[.tmp q, .cell p 29]) (tmps : Array Value) (g : Nat) {a b c d e f : Value} (hp : tmps.getD p undef = .pointer (some ⟨g, 0, none⟩)) (hB : Box6 w g a b c d e f) :
  (results fn tmps).run Tryz.prog w = .ok (.tuple #[tmps.getD q undef, .agg #[a, b, c, d, e, f]]) w := by
 have hp' : tmps[p]?.getD undef = .pointer (some ⟨g, 0, none⟩) := by simpa using hp
 simp [results, h, hp', asAddr, loadVar_itv hB, Sem.run_bind, Result.andThen]
def nums17 (M : Nat → Int) (k : Nat) : List Int := 0 :: (List.range k).map M
theorem nums17_succ (M : Nat → Int) (k : Nat) : nums17 M (k + 1) = nums17 M k ++ [M k] := by simp [nums17, List.range_succ]
theorem rparts_run {n : Nat} {ps qs : List Iv} {Ps Qs : List IvP} {R Lf : Nat → IvP} {M : Nat → Int} (ha : IvsAt w Z A c ps) (hb : IvsAt w Y B d qs) (hp : FmW 8 Ps ps) (hq : FmW 8 Qs qs) (hn : qs.length = n) (hpn : ps.length = n + 1) (h64 : n < 64)
  (hR0 : ∀ (h : 0 < Ps.length), R 0 = Ps[0]) (hM : ∀ k (h : k + 1 < Ps.length), M k = midI Ps[k + 1]) (hMb : ∀ k, k < n → IvN 9 (M k) (M k) ∧ -bigZ < M k ∧ M k < bigZ) (hL : ∀ k (h : k + 1 < Ps.length), Lf k = ivA Ps[k + 1] (ivNg (M k, M k))) (hRs : ∀ k (h2 : k < Qs.length), R (k + 1) = ivA (R k) (ivM (Lf k) Qs[k]) ∧ IvN 30 (ivM (Lf k) Qs[k]).1 (ivM (Lf k) Qs[k]).2) (hRN : ∀ k, k ≤ n → IvN 30 (R k).1 (R k).2) (hLN : ∀ k, k < n → IvN 12 (Lf k).1 (Lf k).2) (hr : IvW (R n) r) :
  Calls Tryz.prog 64 #[.slice A (n + 1) c, .slice B n d] w fun e w' => ∃ Av cv rA ra rB rb, e = .returned (.tuple #[.slice Av (n + 1) cv, .agg #[.bool r.n0, .bool r.s0, .slice rA r.l0.length ra, .bool r.n1, .bool r.s1, .slice rB r.l1.length rb]]) ∧ VecAt w' old Av cv (encI (nums17 M n)) ∧ (∀ b o, Av = some ⟨b, o, none⟩ → w.heap.size ≤ b) ∧ U64s w' old rA ra r.l0 ∧ U64s w' old rB rb r.l1 ∧ Below w.heap.size w w' := by
 have hB0 : Below w.heap.size w (w.alloc (.cells #[.bool false, .bool false, .slice none 0 0, .bool false, .bool false, .slice none 0 0] 29)) := (Below.refl _ w).alloc (Nat.le_refl _) _
 have hsz0 : (w.alloc (.cells #[.bool false, .bool false, .slice none 0 0, .bool false, .bool false, .slice none 0 0] 29)).heap.size = w.heap.size + 1 := by simp
 have HZ := hid (BZ.new w 29)
 have pl := hp.len
 have ql := hq.len
 have ha0 := ha.below hB0
 have hb0 := hb.below hB0
 obtain ⟨b, o, X0, x0, X1, x1, rfl, hbb, hX⟩ := ha0.at (j := 0) (by omega)
 have c0 := hX.1
 simp only [Nat.zero_mul, Nat.add_zero] at c0
 have hp0 := hp.iv 0 (by omega) (by omega)
 have HRI : Hid (∀ k, k < n → ∀ s r p q, IvW (R k) s → IvW (R (k + 1)) r → (∃ h' : k + 1 < Ps.length, IvW Ps[k + 1] p ∧ IvN 8 Ps[k + 1].1 Ps[k + 1].2) → (∃ h' : k < Qs.length, IvW Qs[k] q ∧ IvN 8 Qs[k].1 Qs[k].2) → ∃ (ms : Bool) (ml : List Nat) (ls : Bool) (ll : List Nat) (y z : Iv), Nm (M k) ms ml ∧ ((p.n0 = true ∨ p.n1 = true) → ms = false ∧ ml = []) ∧
   (p.n0 = false → p.n1 = false → ∃ (zs : Bool) (zl : List Nat), (∀ (W : World) (Z1 Z2 : Zone) (A B : Option Addr) (a b : Nat), U64s W Z1 A a p.l0 → U64s W Z2 B b p.l1 → Calls Tryz.prog 90 #[.agg #[.bool p.s0, .slice A p.l0.length a], .agg #[.bool p.s1, .slice B p.l1.length b]] W fun e w' => ∃ Av cv, e = .returned (.agg #[.bool zs, .slice Av zl.length cv]) ∧ U64s w' (new W.heap.size) Av cv zl ∧ Below W.heap.size W w') ∧ (∀ (W : World) (Z1 Z2 : Zone) (A B : Option Addr) (a b : Nat), U64s W Z1 A a zl → U64s W Z2 B b [2] → Calls Tryz.prog 99 #[.agg #[.bool zs, .slice A zl.length a], .agg #[.bool false, .slice B [2].length b]] W fun e w' => ∃ Av cv, e = .returned (.agg #[.bool ms, .slice Av ml.length cv]) ∧ U64s w' (new W.heap.size) Av cv ml ∧ Below W.heap.size W w')) ∧
   (∀ (W : World) (Z1 Z2 : Zone) (A B : Option Addr) (a b : Nat), U64s W Z1 A a ml → Calls Tryz.prog 89 #[.agg #[.bool ms, .slice A ml.length a]] W fun e w' => ∃ Av cv, e = .returned (.agg #[.bool ls, .slice Av ll.length cv]) ∧ U64s w' (new W.heap.size) Av cv ll ∧ Below W.heap.size W w') ∧
   (∀ (W : World) (Z1 Z2 : Zone) (A B : Option Addr) (a b : Nat), U64s W Z1 A a ll → U64s W Z2 B b ll → Calls Tryz.prog 48 #[.agg #[.bool ls, .slice A ll.length a], .agg #[.bool ls, .slice B ll.length b]] W fun e w' => ∃ A1 c1 A2 c2, e = .returned (.agg #[.bool false, .bool ls, .slice A1 ll.length c1, .bool false, .bool ls, .slice A2 ll.length c2]) ∧ U64s w' (new W.heap.size) A1 c1 ll ∧ U64s w' (new W.heap.size) A2 c2 ll ∧ Below W.heap.size W w') ∧
   (∀ (W : World) (Z1 Z2 Z3 Z4 : Zone) (A B C D : Option Addr) (a b c d : Nat), U64s W Z1 A a p.l0 → U64s W Z2 B b p.l1 → U64s W Z3 C c ll → U64s W Z4 D d ll → Calls Tryz.prog 31 #[.agg #[.bool p.n0, .bool p.s0, .slice A p.l0.length a, .bool p.n1, .bool p.s1, .slice B p.l1.length b], .agg #[.bool false, .bool ls, .slice C ll.length c, .bool false, .bool ls, .slice D ll.length d]] W fun e w' => ∃ rA ra rB rb, e = .returned (.agg #[.bool y.n0, .bool y.s0, .slice rA y.l0.length ra, .bool y.n1, .bool y.s1, .slice rB y.l1.length rb]) ∧ U64s w' (new W.heap.size) rA ra y.l0 ∧ U64s w' (new W.heap.size) rB rb y.l1 ∧ Below W.heap.size W w') ∧
   (∀ (W : World) (Z1 Z2 Z3 Z4 : Zone) (A B C D : Option Addr) (a b c d : Nat), U64s W Z1 A a y.l0 → U64s W Z2 B b y.l1 → U64s W Z3 C c q.l0 → U64s W Z4 D d q.l1 → Calls Tryz.prog 34 #[.agg #[.bool y.n0, .bool y.s0, .slice A y.l0.length a, .bool y.n1, .bool y.s1, .slice B y.l1.length b], .agg #[.bool q.n0, .bool q.s0, .slice C q.l0.length c, .bool q.n1, .bool q.s1, .slice D q.l1.length d]] W fun e w' => ∃ rA ra rB rb, e = .returned (.agg #[.bool z.n0, .bool z.s0, .slice rA z.l0.length ra, .bool z.n1, .bool z.s1, .slice rB z.l1.length rb]) ∧ U64s w' old rA ra z.l0 ∧ U64s w' old rB rb z.l1 ∧ Below W.heap.size W w') ∧
   (∀ (W : World) (Z1 Z2 Z3 Z4 : Zone) (A B C D : Option Addr) (a b c d : Nat), U64s W Z1 A a s.l0 → U64s W Z2 B b s.l1 → U64s W Z3 C c z.l0 → U64s W Z4 D d z.l1 → Calls Tryz.prog 31 #[.agg #[.bool s.n0, .bool s.s0, .slice A s.l0.length a, .bool s.n1, .bool s.s1, .slice B s.l1.length b], .agg #[.bool z.n0, .bool z.s0, .slice C z.l0.length c, .bool z.n1, .bool z.s1, .slice D z.l1.length d]] W fun e w' => ∃ rA ra rB rb, e = .returned (.agg #[.bool r.n0, .bool r.s0, .slice rA r.l0.length ra, .bool r.n1, .bool r.s1, .slice rB r.l1.length rb]) ∧ U64s w' (new W.heap.size) rA ra r.l0 ∧ U64s w' (new W.heap.size) rB rb r.l1 ∧ Below W.heap.size W w')) := by
  rintro k hk s r p q hs hr ⟨h1, hp1, hp2⟩ ⟨h2, hq1, hq2⟩
  obtain ⟨ms, ml, hm⟩ : ∃ ms ml, Nm (M k) ms ml := ⟨_, _, rfl, rfl⟩
  obtain ⟨ls, ll, hl⟩ : ∃ ls ll, Nm (-(M k)) ls ll := ⟨_, _, rfl, rfl⟩
  have hMk := hM k h1
  obtain ⟨gm, gm1, gm2⟩ := hMb k hk
  have hbm : -wN 9 < M k ∧ M k < wN 9 := ext_num gm.lo gm1 gm2
  have lm : ml.length ≤ 9 := nm_lenN hm hbm
  have l2 : ll.length ≤ 9 := nm_lenN hl ⟨by omega, by omega⟩
  have hy0 : ivNg (M k, M k) = (-(M k), -(M k)) := rfl
  have hL0 := hL k h1
  rw [hy0] at hL0
  have gpt : IvN 9 (-(M k)) (-(M k)) := ⟨.inr (.inr ⟨by omega, by omega⟩), .inr (.inr ⟨by omega, by omega⟩), Int.le_refl _, by omega, by omega⟩
  have gL := hLN k hk
  have gR := hRs k h2
  refine ⟨ms, ml, ls, ll, ivOf (Lf k).1 (Lf k).2, ivOf (ivM (Lf k) Qs[k]).1 (ivM (Lf k) Qs[k]).2, hm, ?_, ?_, ?_, ?_, ?_, ?_, ?_⟩
  · intro h
    have hz : M k = 0 := by
     rw [hMk]
     unfold midI
     rw [if_pos]
     rcases h with h | h
     · rw [hp1.1.1] at h; exact .inl (of_decide_eq_true h)
     · rw [hp1.2.1] at h; exact .inr (of_decide_eq_true h)
    rw [hz] at hm
    obtain ⟨e1, e2⟩ := hm
    exact ⟨e1, e2⟩
  · intro h0 h1'
    have e0 : Ps[k + 1].1 ≠ -bigZ := by rw [hp1.1.1] at h0; exact of_decide_eq_false h0
    have e1 : Ps[k + 1].2 ≠ bigZ := by rw [hp1.2.1] at h1'; exact of_decide_eq_false h1'
    have b1 := ext_num hp2.lo (by have := hp2.lo.range (show 8 ≤ 64 by omega); omega) hp2.nlo
    have b2 := ext_num hp2.hi hp2.nhi (by have := hp2.hi.range (show 8 ≤ 64 by omega); omega)
    have r1 := hp2.lo.range (show 8 ≤ 64 by omega)
    have r2 := hp2.hi.range (show 8 ≤ 64 by omega)
    have n1 := nm_e (n := Ps[k + 1].1) ⟨by omega, hp2.nlo⟩
    have n2 := nm_e (n := Ps[k + 1].2) ⟨hp2.nhi, by omega⟩
    rw [← hp1.1.2.1, ← hp1.1.2.2] at n1
    rw [← hp1.2.2.1, ← hp1.2.2.2] at n2
    obtain ⟨zs, zl, hz⟩ : ∃ zs zl, Nm (Ps[k + 1].1 + Ps[k + 1].2) zs zl := ⟨_, _, rfl, rfl⟩
    have q1 : p.l0.length ≤ 8 := nm_lenN n1 b1
    have q2 : p.l1.length ≤ 8 := nm_lenN n2 b2
    have q3 : zl.length ≤ 9000 := Nat.le_trans (nm_len_add' n1 n2 hz q1 q2) (by omega)
    refine ⟨zs, zl, fun W Z1 Z2 A B a b u1 u2 => r5sum_n n1 n2 hz rfl (by omega) (by omega) u1 u2, fun W Z1 Z2 A B a b u1 u2 => r5down_n hz two_nm hm ?_ (by omega) q3 (by simp) u1 u2⟩
    rw [hMk]
    unfold midI
    rw [if_neg (by rintro (h | h); exact e0 h; exact e1 h)]
  · intro W Z1 Z2 A B a b u1
    exact r5turned_v hm hl rfl (by omega) u1
  · intro W Z1 Z2 A B a b u1 u2
    exact r16between_w hl hl (by omega) (by omega) u1 u2
  · intro W Z1 Z2 Z3 Z4 A B C D a b c d u1 u2 u3 u4
    exact r16plus_w (q := ⟨false, ls, ll, false, ls, ll⟩) hp1 (hp2.up (show 8 ≤ 9 by omega)) (pt_w hl ⟨by omega, by omega⟩) gpt (by omega) (by rw [← hL0]; exact IvW.mk _) u1 u2 u3 u4
  · intro W Z1 Z2 Z3 Z4 A B C D a b c d u1 u2 u3 u4
    exact r16times_w (IvW.mk _) gL hq1 (hq2.up (show 8 ≤ 12 by omega)) (by omega) (by omega) (IvW.mk _) u1 u2 u3 u4
  · intro W Z1 Z2 Z3 Z4 A B C D a b c d u1 u2 u3 u4
    exact r16plus_w hs (hRN k (by omega)) (IvW.mk _) gR.2 (by omega) (by rw [← gR.1]; exact hr) u1 u2 u3 u4
 have H00 : Hid (IvW (R 0) ps[0]) := hid (by rw [hR0 (by omega)]; exact hp0.1)
 generalize hW0 : w.alloc (.cells #[.bool false, .bool false, .slice none 0 0, .bool false, .bool false, .slice none 0 0] 29) = W0 at *
 have HF : Hid (∀ j (hj : j < n + 1), ∃ (p : Iv) (F0 : Option Addr) (f0 : Nat) (F1 : Option Addr) (f1 : Nat), (W0.cell? ⟨b, o + j * 6, none⟩ = some (.bool p.n0) ∧ W0.cell? ⟨b, o + j * 6 + 1, none⟩ = some (.bool p.s0) ∧ W0.cell? ⟨b, o + j * 6 + 2, none⟩ = some (.slice F0 p.l0.length f0) ∧ W0.cell? ⟨b, o + j * 6 + 3, none⟩ = some (.bool p.n1) ∧ W0.cell? ⟨b, o + j * 6 + 4, none⟩ = some (.bool p.s1) ∧ W0.cell? ⟨b, o + j * 6 + 5, none⟩ = some (.slice F1 p.l1.length f1)) ∧ (∃ h' : j < Ps.length, IvW Ps[j] p ∧ IvN 8 Ps[j].1 Ps[j].2) ∧ (U64s W0 Z F0 f0 p.l0 ∧ U64s W0 Z F1 f1 p.l1)) := fun j hj => by
  obtain ⟨b', o', F0, f0, F1, f1, e, _, hc, u0, u1⟩ := ha0.at (j := j) (by omega)
  injection e with e
  injection e with e1 e2
  subst e1 e2
  exact ⟨ps[j], F0, f0, F1, f1, hc, ⟨by omega, hp.iv j (by omega) (by omega)⟩, u0, u1⟩
 have HQ : Hid (∀ j (hj : j < n), ∃ (q : Iv) (G0 : Option Addr) (d0 : Nat) (G1 : Option Addr) (d1 : Nat) (b2 o2 : Nat), (W0.cell? ⟨b2, o2 + j * 6, none⟩ = some (.bool q.n0) ∧ W0.cell? ⟨b2, o2 + j * 6 + 1, none⟩ = some (.bool q.s0) ∧ W0.cell? ⟨b2, o2 + j * 6 + 2, none⟩ = some (.slice G0 q.l0.length d0) ∧ W0.cell? ⟨b2, o2 + j * 6 + 3, none⟩ = some (.bool q.n1) ∧ W0.cell? ⟨b2, o2 + j * 6 + 4, none⟩ = some (.bool q.s1) ∧ W0.cell? ⟨b2, o2 + j * 6 + 5, none⟩ = some (.slice G1 q.l1.length d1)) ∧ (∃ h' : j < Qs.length, IvW Qs[j] q ∧ IvN 8 Qs[j].1 Qs[j].2) ∧ (U64s W0 Y G0 d0 q.l0 ∧ U64s W0 Y G1 d1 q.l1) ∧ B = some ⟨b2, o2, none⟩) := fun j hj => by
  obtain ⟨b', o', F0, f0, F1, f1, e, _, hc, u0, u1⟩ := hb0.at (j := j) (by omega)
  exact ⟨qs[j], F0, f0, F1, f1, b', o', hc, ⟨by omega, hq.iv j (by omega) (by omega)⟩, ⟨u0, u1⟩, e⟩
 have P0 := hid (PS.lit (g := W0.heap.size + 1) W0 rfl)
 have hal1 : Below W0.heap.size W0 (W0.alloc (.cells #[.bool false, .slice none 0 0] 25)) := (Below.refl _ W0).alloc (Nat.le_refl _) _
 have hal2 : Below (W0.alloc (.cells #[.bool false, .slice none 0 0] 25)).heap.size (W0.alloc (.cells #[.bool false, .slice none 0 0] 25)) ((W0.alloc (.cells #[.bool false, .slice none 0 0] 25)).alloc (.cells #[.bool ps[0].n0, .bool ps[0].s0, .slice X0 ps[0].l0.length x0, .bool ps[0].n1, .bool ps[0].s1, .slice X1 ps[0].l1.length x1] 29)) := (Below.refl _ _).alloc (Nat.le_refl _) _
 have P1 := hid (P0.out.below hal2)
 have B70 := BX.new (t := 29) (r := ps[0]) (hX.2.1.below hal1) (hX.2.2.below hal1)
 have es : (W0.alloc (.cells #[.bool false, .slice none 0 0] 25)).heap.size = W0.heap.size + 1 := by simp
 rw [es] at B70
 obtain ⟨s0, s1, s2, s3, s4, s5⟩ := six_keep c0 hal1
 have HV0 := hid (from_ hal1 hal2)
 generalize ps[0] = p0 at *
 obtain ⟨Hg7, B7, Hrr, Hb0, Hsz⟩ := hid5 (show W0.heap.size ≤ (W0.heap.size + 1) by omega) B70 hr hB0 hsz0
 clear es ha hb hp hq hn hpn hR0 hM hMb hL hRs hRN hLN hr hB0 hsz0 ha0 hb0 pl ql hp0 hX c0 hal1 hal2 P0 B70
 go_enter Tryz.func64, Tryz.ntmps64
 (try simp only [hW0])
 go_upto_region 3 with fail
 (try simp only [hW0])
 clear hW0 s0 s1 s2 s3 s4 s5
 go_wp2
 go_loopw [6, 8] (fun v i wr => ∃ (vr : Value) (k : Nat) (s : Iv) (xs : List Value) (E0 E1 : Option Addr) (e0 e1 : Nat), v = vr ∧ k ≤ n ∧ i = .int .i64 (k : Int) ∧ Hid (IvW (R k) s) ∧ Hid (BX wr (W0.heap.size + 1) s E0 e0 E1 e1) ∧ Hid (PS wr W0.heap.size (W0.heap.size + 1) vr (k + 1) xs (nums17 M k)) ∧ Below W0.heap.size W0 wr) (fun _ i _ => n - (intOf i).toNat)
 case atStart => exact ⟨_, 0, p0, _, _, _, _, _, rfl, Nat.zero_le _, rfl, H00, B7, P1, HV0.out⟩
 case round =>
  obtain ⟨v, k, s, xs, E0, E1, e0, e1, hvr, hk, rfl, hs, B7, PR0, hbel⟩ := hrel
  have hvr2 := hvr.symm
  subst hvr2
  by_cases hlt : k < n
  · skip
    obtain ⟨q, G0, d0, G1, d1, b2, o2, c2, hqq, x2, rfl⟩ := HQ.out k hlt
    have hmL : k + 1 < n + 1 := by omega
    have hw1 : IntKind.i64.wrap ((k : Int) + 1) = (k : Int) + 1 := by rw [IntKind.wrap_i64]; omega
    have hi1 : (k : Int) + 1 ≤ (n : Int) := by omega
    have hi2 : (k : Int) + 1 < (n : Int) + 1 := by omega
    have hi3 : (k : Int) < (n : Int) := by omega
    have hi4 : (0 : Int) ≤ (k : Int) + 1 := by omega
    obtain ⟨p, F0, f0, F1, f1, c1, hpp, x1⟩ := HF.out (k + 1) hmL
    obtain ⟨r, hr⟩ : ∃ r, IvW (R (k + 1)) r := ⟨_, IvW.mk _⟩
    obtain ⟨ms, ml, ls, ll, y, z, hm, hm0, hsd, CTu, CBt, CP1, CTm, CP2⟩ := HRI.out k hlt s r p q hs.out hr hpp hqq
    obtain ⟨Hm, Hm0, Hsd, HTu, HBt, HP1⟩ := hid6 hm hm0 hsd CTu CBt CP1
    obtain ⟨HTm, HP2, Hr⟩ := hid3 CTm CP2 hr
    obtain ⟨e0', e1', e2', e3', e4', e5'⟩ := six_keep c1 hbel
    obtain ⟨HC2, HX2, Hg7l, B9, Hl2, Hal⟩ := hid6 c2 x2 B7.out.box.lt (BX.new (t := 29) (x1.1.below hbel) (x1.2.below hbel)) (show b2 < W0.heap.size from lt_of_cell c2.1) ((Below.refl wr.heap.size wr).alloc (Nat.le_refl _) (.cells #[.bool p.n0, .bool p.s0, .slice F0 p.l0.length f0, .bool p.n1, .bool p.s1, .slice F1 p.l1.length f1] 29))
    have Hal2 := hid ((Below.refl _ _).alloc (Nat.le_refl _) (.cells #[.bool false, .slice none 0 0] 25) : Below _ (wr.alloc (.cells #[.bool p.n0, .bool p.s0, .slice F0 p.l0.length f0, .bool p.n1, .bool p.s1, .slice F1 p.l1.length f1] 29)) _)
    have es : (wr.alloc (.cells #[.bool p.n0, .bool p.s0, .slice F0 p.l0.length f0, .bool p.n1, .bool p.s1, .slice F1 p.l1.length f1] 29)).heap.size = wr.heap.size + 1 := by simp
    have B10 : Hid (BM ((wr.alloc (.cells #[.bool p.n0, .bool p.s0, .slice F0 p.l0.length f0, .bool p.n1, .bool p.s1, .slice F1 p.l1.length f1] 29)).alloc (.cells #[.bool false, .slice none 0 0] 25)) (wr.heap.size + 1) false [] none 0) := by
     have h := BM.new (ty := 25) (s := false) (l := []) (U64s.nil (wr.alloc (.cells #[.bool p.n0, .bool p.s0, .slice F0 p.l0.length f0, .bool p.n1, .bool p.s1, .slice F1 p.l1.length f1] 29)) old)
     rw [es] at h
     exact h
    obtain ⟨g9, hg9⟩ : ∃ g, g = wr.heap.size := ⟨_, rfl⟩
    obtain ⟨g10, hg10⟩ : ∃ g, g = wr.heap.size + 1 := ⟨_, rfl⟩
    have Hlo := hid (And.intro (show wr.heap.size ≤ g9 by omega) (And.intro (show wr.heap.size ≤ g10 by omega) (show g9 ≠ g10 by omega)))
    go_upto_region 8 with fail
    replace B9 := hid (B9.out.below Hal2.out)
    rw [← hg9] at B9
    rw [← hg10] at B10
    have HV := hid (from_ Hal.out Hal2.out)
    (try simp only [← hg10])
    (try simp only [← hg9])
    clear es c1 c2 hqq x2 hpp x1 hr hs hm hm0 hsd CTu CBt CP1 CTm CP2 e0' e1' e2' e3' e4' e5' Hal Hal2 hg9 hg10
    generalize hV : (wr.alloc (.cells #[.bool p.n0, .bool p.s0, .slice F0 p.l0.length f0, .bool p.n1, .bool p.s1, .slice F1 p.l1.length f1] 29)).alloc (.cells #[.bool false, .slice none 0 0] 25) = V at *
    clear hV
    replace B7 := hid (B7.out.below HV.out)
    obtain ⟨PR, Hoff⟩ := hid2 (PR0.out.below HV.out) (And.intro (fun e => by have := (PR0.out.own.lt _ e).2; have := Hlo.out.1; omega : _ ≠ some g9) (fun e => by have := (PR0.out.own.lt _ e).2; have := Hlo.out.2.1; omega : _ ≠ some g10))
    obtain ⟨b0, b1, b2', b3, b4, b5, _, _, _, _, _, _, _⟩ := id B9.out.box
    obtain ⟨n0, hn0⟩ : ∃ b, p.n0 = b := ⟨_, rfl⟩
    obtain ⟨n1, hn1⟩ : ∃ b, p.n1 = b := ⟨_, rfl⟩
    rw [hn0] at b0
    rw [hn1] at b3
    go_cut [38] (fun s38 wx => s38 = .bool (!n0 && !n1) ∧ wx = V)
    case first =>
     clear hn0 hn1
     cases n0 <;> cases n1
     all_goals
      go_wp2_with fail
      go_meet
      exact ⟨rfl, rfl⟩
    case rest =>
     obtain ⟨rfl, hwc⟩ := hcut
     replace hwc := hwc.symm
     subst hwc
     clear b0 b1 b2' b3 b4 b5
     go_upto_if 38 with fail
     go_cut [] (fun wx => ∃ (K0 : Option Addr) (k0 : Nat), BM wx g10 ms ml K0 k0 ∧ BX wx g9 p F0 f0 F1 f1 ∧ BX wx (W0.heap.size + 1) s E0 e0 E1 e1 ∧ PS wx W0.heap.size (W0.heap.size + 1) v (k + 1) xs (nums17 M k) ∧ Below wr.heap.size wr wx)
     case first =>
      rw [hn0, hn1] at Hm0 Hsd
      clear hn0 hn1
      cases n0 with
      | true =>
        obtain ⟨rfl, rfl⟩ := Hm0.out (.inl rfl)
        simp only [Bool.not_true, Bool.false_and]
        clear Hm0 Hsd
        go_wp2_with fail
        go_meet
        exact ⟨_, _, B10.out, B9.out, B7.out, PR.out, HV.out⟩
      | false =>
       cases n1 with
       | true =>
        obtain ⟨rfl, rfl⟩ := Hm0.out (.inr rfl)
        simp only [Bool.not_true, Bool.not_false, Bool.and_false]
        clear Hm0 Hsd
        go_wp2_with fail
        go_meet
        exact ⟨_, _, B10.out, B9.out, B7.out, PR.out, HV.out⟩
       | false =>
        obtain ⟨zs, zl, cs, cd⟩ := Hsd.out rfl rfl
        obtain ⟨HS, HD⟩ := hid2 cs cd
        clear cs cd Hsd Hm0
        simp only [Bool.not_false, Bool.and_true]
        obtain ⟨b0, b1, b2', b3, b4, b5, _, _, _, _, _, _, _⟩ := id B9.out.box
        go_wp2_with fail
        refine (HS.out _ _ _ _ _ _ _ B9.out.u0 B9.out.u1).mono ?_
        rintro e w2 ⟨Y0, y0, rfl, o0, hc⟩
        replace B7 := hid (B7.out.below hc)
        replace B9 := hid (B9.out.below hc)
        replace B10 := hid (B10.out.below hc)
        replace PR := hid (PR.out.below hc)
        replace HV := hid (from_ HV.out hc)
        clear hc b0 b1 b2' b3 b4 b5
        go_wp2_with fail
        refine (r05of_p (w := w2) two_nm ⟨by omega, by omega⟩).mono ?_
        rintro e w3 ⟨Y1, y1, rfl, o1, hc⟩
        replace B7 := hid (B7.out.below hc)
        replace B9 := hid (B9.out.below hc)
        replace B10 := hid (B10.out.below hc)
        replace PR := hid (PR.out.below hc)
        replace HV := hid (from_ HV.out hc)
        replace o0 := o0.below hc
        clear hc
        go_wp2_with fail
        refine (HD.out _ _ _ _ _ _ _ o0 o1).mono ?_
        clear o0 o1
        rintro e w4 ⟨Y2, y2, rfl, o0, hc⟩
        replace B7 := hid (B7.out.below hc)
        replace B9 := hid (B9.out.below hc)
        replace B10 := hid (B10.out.below hc)
        replace PR := hid (PR.out.below hc)
        replace HV := hid (from_ HV.out hc)
        obtain ⟨h0, h1, f0', f1', _⟩ := id B10.out.box
        have n7 := Hlo.out.2.1
        have l7 := Hg7l.out
        have NE10 : g10 ≠ (W0.heap.size + 1) := by omega
        have NEo : some g10 ≠ v.ownBlock := fun e => Hoff.out.2 e.symm
        have HVn := hid (B10.out.box.put (w := wr) HV.out n7 (.bool ms) (.slice Y2 ml.length y2)).bel
        obtain ⟨B7n, B9n, PRn, B10n⟩ := hid4 (B7.out.oth2 NE10 B10.out.noU (.bool ms) (.slice Y2 ml.length y2)) (B9.out.oth2 (fun e => Hlo.out.2.2 e.symm) B10.out.noU (.bool ms) (.slice Y2 ml.length y2)) (PR.out.st2 B10.out.noU (fun e => NEo e.symm) (.bool ms) (.slice Y2 ml.length y2)) (B10.out.own (t := ms) (k := ml) o0)
        clear o0 hc n7 l7 NE10 NEo
        go_wp2_with fail
        go_meet
        exact ⟨_, _, B10n.out, B9n.out, B7n.out, PRn.out, HVn.out⟩
     case rest =>
      clear B9 B10 B7 PR HV Hsd Hm0 hn0 hn1
      obtain ⟨K0, k0, hb10, hb9, hb7, hps, hbv⟩ := hcut
      obtain ⟨B10, B9, B7, PR, HV⟩ := hid5 hb10 hb9 hb7 hps hbv
      clear hb10 hb9 hb7 hps hbv
      obtain ⟨V2, hren⟩ : ∃ W, W = wc := ⟨_, rfl⟩
      subst hren
      obtain ⟨h0, h1, _, _, _⟩ := id B10.out.box
      have Hal := hid ((Below.refl V2.heap.size V2).alloc (Nat.le_refl _) (.cells #[.bool ms, .slice K0 ml.length k0] 25))
      obtain ⟨PR2, UM, Hbase⟩ := hid3 (PR.out.below Hal.out) (B10.out.u.below Hal.out) (show W0.heap.size ≤ (V2.alloc (.cells #[.bool ms, .slice K0 ml.length k0] 25)).heap.size from (from_ (from_ hbel HV.out) Hal.out).size)
      obtain ⟨i0, hi, hz0, hz1, hz2⟩ := info_parts infoI
      go_upto_region 11 with (at_builtin; go_loud (refine wpList_appN _ rfl _ _ 43 rfl W0.heap.size 25 i0 (.agg #[.bool false, .slice none 0 0]) 2 32 Tryz.underlying43 hi hz0 hz1 hz2 rfl (by omega) (by omega) _ _ _ rfl PR2.out.own V2.heap.size [.bool ms, .slice K0 ml.length k0] rfl rfl two_news (by simp [Value.oneCell']) (by omega) Hbase.out PR2.out.noU two_noW two_noW ?_); intro v' wb hown' hgrow hfresh hnn)
      have hof := Hoff.out
      obtain ⟨B7b, B9b, B10b, HBW⟩ := hid4 ((B7.out.below Hal.out).rowG hgrow PR2.out.noU PR2.out.off) ((B9.out.below Hal.out).rowG hgrow PR2.out.noU hof.1) ((B10.out.below Hal.out).rowG hgrow PR2.out.noU hof.2) ((from_ (from_ hbel HV.out) Hal.out).grown hgrow Hbase.out (fun b hb => (PR2.out.own.lt b hb).1))
      have PR3 : Hid (PS wb W0.heap.size (W0.heap.size + 1) v' (k + 1 + 1) (xs ++ [.bool ms, .slice K0 ml.length k0]) (nums17 M (k + 1))) := by
       rw [nums17_succ]
       exact PR2.out.snoc hown' hgrow hfresh hnn UM.out Hm.out (Nat.lt_of_lt_of_le B7.out.box.lt Hal.out.size)
      clear hof h0 h1 B7 B9 B10 PR PR2 UM Hal HV Hoff hown' hgrow hfresh hnn
      generalize xs ++ [.bool ms, .slice K0 ml.length k0] = xs' at *
      obtain ⟨h0, h1, _, _, _⟩ := id B10b.out.box
      go_wp2_with fail
      refine (HTu.out _ _ old _ none _ 0 B10b.out.u).mono ?_
      rintro e w2 ⟨K0, k0, rfl, o0, hc⟩
      clear h0 h1
      go_upto_region 12 with fail
      obtain ⟨Hal, B11⟩ := hid2 ((Below.refl w2.heap.size w2).alloc (Nat.le_refl _) (.cells #[.bool ls, .slice K0 ll.length k0] 25)) (BM.new (ty := 25) (s := ls) o0)
      replace B7 := hid ((B7b.out.below hc).below Hal.out)
      replace B9 := hid ((B9b.out.below hc).below Hal.out)
      obtain ⟨PR, Hbl, NE7⟩ := hid3 ((PR3.out.below hc).below Hal.out) (from_ (from_ HBW.out hc) Hal.out) (show w2.heap.size ≠ (W0.heap.size + 1) by have := Nat.lt_of_lt_of_le B7b.out.box.lt hc.size; omega)
      obtain ⟨g11, hg11⟩ : ∃ g, g = w2.heap.size := ⟨_, rfl⟩
      rw [← hg11] at B11 NE7
      (try simp only [← hg11])
      clear o0 hc Hal B7b B9b B10b PR3 HBW hg11
      generalize hV : w2.alloc (.cells #[.bool ls, .slice K0 ll.length k0] 25) = V5 at *
      clear hV
      have hdr : Below V5.heap.size V5 V5.drew := bdr_
      replace hbel := Hbl.out
      have C5 := hid (six_keep (HC2.out) Hbl.out)
      have HT := And.intro (show ((V5.drew.cell? ⟨g9, 0, none⟩ = some (.bool p.n0) ∧ V5.drew.cell? ⟨g9, 1, none⟩ = some (.bool p.s0) ∧ V5.drew.cell? ⟨g9, 2, none⟩ = some (.slice F0 p.l0.length f0) ∧ V5.drew.cell? ⟨g9, 3, none⟩ = some (.bool p.n1) ∧ V5.drew.cell? ⟨g9, 4, none⟩ = some (.bool p.s1) ∧ V5.drew.cell? ⟨g9, 5, none⟩ = some (.slice F1 p.l1.length f1)) ∧ V5.drew.cell? ⟨g11, 0, none⟩ = some (.bool ls) ∧ V5.drew.cell? ⟨g11, 1, none⟩ = some (.slice K0 ll.length k0)) ∧ V5.drew.cell? ⟨b2, o2 + k * 6, none⟩ = some (.bool q.n0) ∧ V5.drew.cell? ⟨b2, o2 + k * 6 + 1, none⟩ = some (.bool q.s0) ∧ V5.drew.cell? ⟨b2, o2 + k * 6 + 2, none⟩ = some (.slice G0 q.l0.length d0) ∧ V5.drew.cell? ⟨b2, o2 + k * 6 + 3, none⟩ = some (.bool q.n1) ∧ V5.drew.cell? ⟨b2, o2 + k * 6 + 4, none⟩ = some (.bool q.s1) ∧ V5.drew.cell? ⟨b2, o2 + k * 6 + 5, none⟩ = some (.slice G1 q.l1.length d1) from ⟨⟨(B9.out.below hdr).box.all, keepC hdr B11.out.box.c0, keepC hdr B11.out.box.c1⟩, six_keep C5.out hdr⟩) (B7.out.below hdr).box.all
      obtain ⟨UL, UP, UQ, Hc⟩ := hid4 (B11.out.u.below hdr) (And.intro (B9.out.u0.below hdr) (B9.out.u1.below hdr)) (And.intro ((HX2.out.1.below Hbl.out).below hdr) ((HX2.out.2.below Hbl.out).below hdr)) hdr
      have NE : Hid ((W0.heap.size + 1) ≠ g9 ∧ (W0.heap.size + 1) ≠ g11 ∧ (W0.heap.size + 1) ≠ b2) := hid ⟨by have := Hlo.out.1; have := Hg7l.out; omega, NE7.out.symm, by have := Hl2.out; have := Hg7.out; omega⟩
      replace B7 := hid (B7.out.below hdr)
      replace PR := hid (PR.out.below hdr)
      clear hdr B9 B11 C5
      refine wp_region_L (fun w' : World => ((C6 w' g9 (.bool p.n0) (.bool p.s0) (.slice F0 p.l0.length f0) (.bool p.n1) (.bool p.s1) (.slice F1 p.l1.length f1)) ∧ w'.cell? ⟨g11, 0, none⟩ = some (.bool ls) ∧ w'.cell? ⟨g11, 1, none⟩ = some (.slice K0 ll.length k0)) ∧ w'.cell? ⟨b2, o2 + k * 6, none⟩ = some (.bool q.n0) ∧ w'.cell? ⟨b2, o2 + k * 6 + 1, none⟩ = some (.bool q.s0) ∧ w'.cell? ⟨b2, o2 + k * 6 + 2, none⟩ = some (.slice G0 q.l0.length d0) ∧ w'.cell? ⟨b2, o2 + k * 6 + 3, none⟩ = some (.bool q.n1) ∧ w'.cell? ⟨b2, o2 + k * 6 + 4, none⟩ = some (.bool q.s1) ∧ w'.cell? ⟨b2, o2 + k * 6 + 5, none⟩ = some (.slice G1 q.l1.length d1)) (fun w' : World => C6 w' ((W0.heap.size + 1)) (.bool s.n0) (.bool s.s0) (.slice E0 s.l0.length e0) (.bool s.n1) (.bool s.s1) (.slice E1 s.l1.length e1)) 11 (by kernel_rfl) ?_
      show wpAnyL _ _ _ _ _ _ _ 13 _ _ _
      refine wpAnyL_take (i := 0) (v := ?_) rfl (by kernel_rfl) (by kernel_rfl) (by kernel_rfl) (fun _ _ _ h => h) (by kernel_rfl) (by rfl) (by rfl) (Or.inl ⟨by rfl, ?_⟩) HT ?_
      rotate_left
      · intro w' hSw; (try dsimp only at hSw); go_simp; (try with_reducible rfl)
      try simp only [Act.put, List.setIfInBounds_toArray, List.set_cons_zero, List.set_cons_succ]
      refine wpAnyL_takeA (i := 1) (v := ?_) rfl (by kernel_rfl) (by kernel_rfl) (by kernel_rfl) (fun _ _ _ h => h) (by rfl) (Or.inl ⟨by rfl, ?_⟩) HT ?_
      rotate_left
      · intro w' hSw; (try dsimp only at hSw); go_simp; (try with_reducible rfl)
      try simp only [Act.put, List.setIfInBounds_toArray, List.set_cons_zero, List.set_cons_succ]
      refine wpAnyL_takeA (i := 2) (v := ?_) rfl (by kernel_rfl) (by kernel_rfl) (by kernel_rfl) (fun _ _ _ h => h) (by rfl) (Or.inl ⟨by rfl, ?_⟩) HT ?_
      rotate_left
      · intro w' hSw; (try dsimp only at hSw); go_simp; (try with_reducible rfl)
      try simp only [Act.put, List.setIfInBounds_toArray, List.set_cons_zero, List.set_cons_succ]
      refine wpAnyL_takeA (i := 3) (v := ?_) rfl (by kernel_rfl) (by kernel_rfl) (by kernel_rfl) (fun _ _ _ h => h) (by rfl) (Or.inl ⟨by rfl, ?_⟩) HT ?_
      rotate_left
      · intro w' hSw; (try dsimp only at hSw); go_simp; (try with_reducible rfl)
      try simp only [Act.put, List.setIfInBounds_toArray, List.set_cons_zero, List.set_cons_succ]
      refine wpAnyL_takeA (i := 6) (v := ?_) rfl (by kernel_rfl) (by kernel_rfl) (by kernel_rfl) (fun _ _ _ h => h) (by rfl) (Or.inl ⟨by rfl, ?_⟩) HT ?_
      rotate_left
      · intro w' hSw; (try dsimp only at hSw); go_simp; (try with_reducible rfl)
      try simp only [Act.put, List.setIfInBounds_toArray, List.set_cons_zero, List.set_cons_succ]
      refine wpAnyL_takeA (i := 7) (v := ?_) rfl (by kernel_rfl) (by kernel_rfl) (by kernel_rfl) (fun _ _ _ h => h) (by rfl) (Or.inl ⟨by rfl, ?_⟩) HT ?_
      rotate_left
      · intro w' hSw; (try dsimp only at hSw); go_simp; (try with_reducible rfl)
      try simp only [Act.put, List.setIfInBounds_toArray, List.set_cons_zero, List.set_cons_succ]
      refine wpAnyL_takeA (i := 8) (v := ?_) rfl (by kernel_rfl) (by kernel_rfl) (by kernel_rfl) (fun _ _ _ h => h) (by rfl) (Or.inl ⟨by rfl, ?_⟩) HT ?_
      rotate_left
      · intro w' hSw; (try dsimp only at hSw); go_simp; (try with_reducible rfl)
      try simp only [Act.put, List.setIfInBounds_toArray, List.set_cons_zero, List.set_cons_succ]
      refine wpAnyL_takeA (i := 9) (v := ?_) rfl (by kernel_rfl) (by kernel_rfl) (by kernel_rfl) (fun _ _ _ h => h) (by rfl) (Or.inl ⟨by rfl, ?_⟩) HT ?_
      rotate_left
      · intro w' hSw; (try dsimp only at hSw); go_simp; (try with_reducible rfl)
      try simp only [Act.put, List.setIfInBounds_toArray, List.set_cons_zero, List.set_cons_succ]
      refine anyL_one (i := 4) (by kernel_rfl) (wpOp_step rfl (by rfl) fun K hK => ?_)
      go_simp
      refine (HBt.out _ _ _ _ _ _ _ UL.out UL.out).mono ?_
      rintro e w4 ⟨Y0, y0, Y1, y1, rfl, o0, o1, hc2⟩
      have tA : ((C6 w4 g9 (.bool p.n0) (.bool p.s0) (.slice F0 p.l0.length f0) (.bool p.n1) (.bool p.s1) (.slice F1 p.l1.length f1)) ∧ w4.cell? ⟨g11, 0, none⟩ = some (.bool ls) ∧ w4.cell? ⟨g11, 1, none⟩ = some (.slice K0 ll.length k0)) ∧ w4.cell? ⟨b2, o2 + k * 6, none⟩ = some (.bool q.n0) ∧ w4.cell? ⟨b2, o2 + k * 6 + 1, none⟩ = some (.bool q.s0) ∧ w4.cell? ⟨b2, o2 + k * 6 + 2, none⟩ = some (.slice G0 q.l0.length d0) ∧ w4.cell? ⟨b2, o2 + k * 6 + 3, none⟩ = some (.bool q.n1) ∧ w4.cell? ⟨b2, o2 + k * 6 + 4, none⟩ = some (.bool q.s1) ∧ w4.cell? ⟨b2, o2 + k * 6 + 5, none⟩ = some (.slice G1 q.l1.length d1) := ⟨⟨six_keep0 HT.1.1.1 hc2, keepC hc2 HT.1.1.2.1, keepC hc2 HT.1.1.2.2⟩, six_keep HT.1.2 hc2⟩
      have tT := six_keep0 HT.2 hc2
      obtain ⟨V01, V23⟩ := hid2 (And.intro (UP.out.1.below hc2) (UP.out.2.below hc2)) (And.intro (UQ.out.1.below hc2) (UQ.out.2.below hc2))
      replace B7 := hid (B7.out.below hc2)
      replace PR := hid (PR.out.below hc2)
      replace Hc := hid (from_ Hc.out hc2)
      refine hK _ _ ⟨⟨tA, fun _ => tT⟩, ?_⟩
      clear hK K hc2 HT UP UQ
      try simp only [Act.put, List.setIfInBounds_toArray, List.set_cons_zero, List.set_cons_succ]
      refine anyL_one (i := 5) (by kernel_rfl) (wpOp_step rfl (by rfl) fun K hK => ?_)
      go_simp
      refine (HP1.out _ _ _ _ _ _ _ _ _ _ _ _ _ V01.out.1 V01.out.2 o0 o1).mono ?_
      clear o0 o1
      obtain ⟨hA4, hT4⟩ := And.intro tA tT
      clear tA tT
      rintro e w4 ⟨Y0, y0, Y1, y1, rfl, o0, o1, hc2⟩
      have tA : ((C6 w4 g9 (.bool p.n0) (.bool p.s0) (.slice F0 p.l0.length f0) (.bool p.n1) (.bool p.s1) (.slice F1 p.l1.length f1)) ∧ w4.cell? ⟨g11, 0, none⟩ = some (.bool ls) ∧ w4.cell? ⟨g11, 1, none⟩ = some (.slice K0 ll.length k0)) ∧ w4.cell? ⟨b2, o2 + k * 6, none⟩ = some (.bool q.n0) ∧ w4.cell? ⟨b2, o2 + k * 6 + 1, none⟩ = some (.bool q.s0) ∧ w4.cell? ⟨b2, o2 + k * 6 + 2, none⟩ = some (.slice G0 q.l0.length d0) ∧ w4.cell? ⟨b2, o2 + k * 6 + 3, none⟩ = some (.bool q.n1) ∧ w4.cell? ⟨b2, o2 + k * 6 + 4, none⟩ = some (.bool q.s1) ∧ w4.cell? ⟨b2, o2 + k * 6 + 5, none⟩ = some (.slice G1 q.l1.length d1) := ⟨⟨six_keep0 hA4.1.1 hc2, keepC hc2 hA4.1.2.1, keepC hc2 hA4.1.2.2⟩, six_keep hA4.2 hc2⟩
      have tT := six_keep0 hT4 hc2
      replace V23 := hid (And.intro (V23.out.1.below hc2) (V23.out.2.below hc2))
      replace B7 := hid (B7.out.below hc2)
      replace PR := hid (PR.out.below hc2)
      replace Hc := hid (from_ Hc.out hc2)
      refine hK _ _ ⟨⟨tA, fun _ => tT⟩, ?_⟩
      clear hK K hc2 hA4 hT4 V01
      try simp only [Act.put, List.setIfInBounds_toArray, List.set_cons_zero, List.set_cons_succ]
      refine anyL_one (i := 10) (by kernel_rfl) (wpOp_step rfl (by rfl) fun K hK => ?_)
      go_simp
      refine (HTm.out _ _ _ _ _ _ _ _ _ _ _ _ _ o0 o1 V23.out.1 V23.out.2).mono ?_
      clear o0 o1
      obtain ⟨hA4, hT4⟩ := And.intro tA tT
      clear tA tT
      rintro e w4 ⟨Y0, y0, Y1, y1, rfl, o0, o1, hc2⟩
      have tA : ((C6 w4 g9 (.bool p.n0) (.bool p.s0) (.slice F0 p.l0.length f0) (.bool p.n1) (.bool p.s1) (.slice F1 p.l1.length f1)) ∧ w4.cell? ⟨g11, 0, none⟩ = some (.bool ls) ∧ w4.cell? ⟨g11, 1, none⟩ = some (.slice K0 ll.length k0)) ∧ w4.cell? ⟨b2, o2 + k * 6, none⟩ = some (.bool q.n0) ∧ w4.cell? ⟨b2, o2 + k * 6 + 1, none⟩ = some (.bool q.s0) ∧ w4.cell? ⟨b2, o2 + k * 6 + 2, none⟩ = some (.slice G0 q.l0.length d0) ∧ w4.cell? ⟨b2, o2 + k * 6 + 3, none⟩ = some (.bool q.n1) ∧ w4.cell? ⟨b2, o2 + k * 6 + 4, none⟩ = some (.bool q.s1) ∧ w4.cell? ⟨b2, o2 + k * 6 + 5, none⟩ = some (.slice G1 q.l1.length d1) := ⟨⟨six_keep0 hA4.1.1 hc2, keepC hc2 hA4.1.2.1, keepC hc2 hA4.1.2.2⟩, six_keep hA4.2 hc2⟩
      have tT := six_keep0 hT4 hc2
      replace B7 := hid (B7.out.below hc2)
      replace PR := hid (PR.out.below hc2)
      replace Hc := hid (from_ Hc.out hc2)
      refine hK _ _ ⟨⟨tA, fun _ => tT⟩, ?_⟩
      clear hK K hc2 hA4 hT4 V23
      try simp only [Act.put, List.setIfInBounds_toArray, List.set_cons_zero, List.set_cons_succ]
      refine anyL_last (by kernel_rfl) (by rfl) (wpOp_step rfl (by rfl) fun K hK => ?_)
      go_simp
      refine (HP2.out _ _ _ _ _ _ _ _ _ _ _ _ _ B7.out.u0 B7.out.u1 o0 o1).mono ?_
      obtain ⟨hA4, hT4⟩ := And.intro tA tT
      clear tA tT
      rintro e w4 ⟨Y2, y2, Y3, y3, rfl, n0, n1, hc2⟩
      have tA : ((C6 w4 g9 (.bool p.n0) (.bool p.s0) (.slice F0 p.l0.length f0) (.bool p.n1) (.bool p.s1) (.slice F1 p.l1.length f1)) ∧ w4.cell? ⟨g11, 0, none⟩ = some (.bool ls) ∧ w4.cell? ⟨g11, 1, none⟩ = some (.slice K0 ll.length k0)) ∧ w4.cell? ⟨b2, o2 + k * 6, none⟩ = some (.bool q.n0) ∧ w4.cell? ⟨b2, o2 + k * 6 + 1, none⟩ = some (.bool q.s0) ∧ w4.cell? ⟨b2, o2 + k * 6 + 2, none⟩ = some (.slice G0 q.l0.length d0) ∧ w4.cell? ⟨b2, o2 + k * 6 + 3, none⟩ = some (.bool q.n1) ∧ w4.cell? ⟨b2, o2 + k * 6 + 4, none⟩ = some (.bool q.s1) ∧ w4.cell? ⟨b2, o2 + k * 6 + 5, none⟩ = some (.slice G1 q.l1.length d1) := ⟨⟨six_keep0 hA4.1.1 hc2, keepC hc2 hA4.1.2.1, keepC hc2 hA4.1.2.2⟩, six_keep hA4.2 hc2⟩
      replace B7 := hid (B7.out.below hc2)
      replace PR := hid (PR.out.below hc2)
      replace Hc := hid (from_ Hc.out hc2)
      obtain ⟨g0, g1, g2, g3, g4, g5, f0', f1', f2', f3', f4', f5', _⟩ := id B7.out.box
      refine hK _ _ ⟨tA, ?_⟩
      clear hK K hc2 hA4 hT4 o0 o1
      try simp only [Act.put, List.setIfInBounds_toArray, List.set_cons_zero, List.set_cons_succ]
      refine anyH_one (i := 12) (by kernel_rfl) (wpOp_step rfl (by rfl) fun K hK => ?_)
      go_simp
      refine hK _ _ ⟨⟨⟨six_st60 NE.out.1 tA.1.1, st6 tA.1.2.1 NE.out.2.1, st6 tA.1.2.2 NE.out.2.1⟩, six_st6 NE.out.2.2 tA.2⟩, ?_⟩
      clear hK K tA g0 g1 g2 g3 g4 g5 f0' f1' f2' f3' f4' f5'
      try simp only [Act.put, List.setIfInBounds_toArray, List.set_cons_zero, List.set_cons_succ]
      refine wpAnyH_done (by kernel_rfl) ?_ _
      all_goals
       have HP := hid (B7.out.box.put (w := W0) (from_ hbel Hc.out) Hg7.out (.bool r.n0) (.bool r.s0) (.slice Y2 r.l0.length y2) (.bool r.n1) (.bool r.s1) (.slice Y3 r.l1.length y3)).bel
       have PRn := hid (PR.out.st6 B7.out.noU PR.out.off (.bool r.n0) (.bool r.s0) (.slice Y2 r.l0.length y2) (.bool r.n1) (.bool r.s1) (.slice Y3 r.l1.length y3))
       replace B7 := hid (B7.out.own (q := r) n0 n1)
       clear n0 n1 PR
       go_wp2
       go_roundw
       case rel => exact ⟨_, k + 1, r, xs', _, _, _, _, rfl, by omega, by go_num, Hr, B7, PRn, HP.out⟩
       case measure => simp [intOf]; omega
  · obtain rfl : k = n := by omega
    have R4 := hid (HZ.out.below hbel)
    obtain rfl := IvW.uniq Hrr.out hs.out
    obtain ⟨y0, y1, y2, y3, y4, y5, _, _, _, _, _, _, _⟩ := id B7.out.box
    have hdr : Below wr.heap.size wr wr.drew := bdr_
    obtain ⟨z0, z1, z2, z3, z4, z5⟩ := And.intro (keepC hdr y0) (And.intro (keepC hdr y1) (And.intro (keepC hdr y2) (And.intro (keepC hdr y3) (And.intro (keepC hdr y4) (keepC hdr y5)))))
    have HP := hid ((R4.out.own (q := r) B7.out.u0 B7.out.u1).below bdr_)
    have HPl := hid (R4.out.box.put (w := w) (from_ Hb0.out hbel) (Nat.le_refl _) (.bool r.n0) (.bool r.s0) (.slice E0 r.l0.length e0) (.bool r.n1) (.bool r.s1) (.slice E1 r.l1.length e1)).bel.drew
    obtain ⟨Av, cv, rfl, hvec, hbv⟩ := ((PR0.out.st6 R4.out.noU (fun e => by have h1 := (PR0.out.own.lt _ e).1; have h2 := Hsz.out; omega) (.bool r.n0) (.bool r.s0) (.slice E0 r.l0.length e0) (.bool r.n1) (.bool r.s1) (.slice E1 r.l1.length e1)).below bdr_).fin
    obtain ⟨HVe, HBv⟩ := hid2 hvec (fun b o e => Nat.le_trans (by have := Hsz.out; omega) (hbv b o e) : ∀ b o, Av = some ⟨b, o, none⟩ → w.heap.size ≤ b)
    obtain ⟨g0, g1, g2, g3, g4, g5, f0', f1', f2', f3', f4', f5', _⟩ := id R4.out.box
    clear hs B7 hdr PR0 hvec hbv
    go_wp2_with fail
    go_region
    go_wp2
    refine bodyPost_ret (res_parts rfl _ w.heap.size rfl HP.out.box) rfl ?_
    exact ⟨_, _, _, _, _, _, rfl, HVe.out, HBv.out, HP.out.u0, HP.out.u1, HPl.out⟩
theorem rsplit_bad {ps qs : List Iv} {g : Int} (ha : IvsAt w Z A c ps) (hb : IvsAt w Y B d qs) (hs : ∀ p ∈ ps, p.short) (hs2 : ∀ p ∈ qs, p.short) (hg : errFB ps qs = g) (h0 : g ≠ 0) :
  Calls Tryz.prog 23 #[.slice A ps.length c, .slice B qs.length d] w fun e w' => e = .returned (.tuple #[.slice none 0 0, .agg #[.bool false, .bool false, .slice none 0 0, .bool false, .bool false, .slice none 0 0], .int .i64 g]) ∧ Below w.heap.size w w' := by
 have hB0 : Below w.heap.size w (w.alloc (.cells #[.bool false, .bool false, .slice none 0 0, .bool false, .bool false, .slice none 0 0] 29)) := (Below.refl _ w).alloc (Nat.le_refl _) _
 have hck := rboxed_any (ha.below hB0) (hb.below hB0) hs hs2
 rw [hg] at hck
 obtain ⟨HR, Hck, Hb0⟩ := hid3 (Box6.new w (.bool false) (.bool false) (.slice none 0 0) (.bool false) (.bool false) (.slice none 0 0) 29) hck hB0
 have hbe : (g == 0) = false := beq_eq_false_iff_ne.2 h0
 clear ha hb hs hs2 hg hck hB0
 generalize ps.length = L at *
 generalize qs.length = M at *
 go_enter Tryz.func23, Tryz.ntmps23
 go_wp2_with fail
 refine Hck.out.mono ?_
 rintro e w1 ⟨rfl, hc⟩
 have HP := hid ((HR.out.below hc).put (w := w) (from_ Hb0.out hc) (Nat.le_refl _) (.bool false) (.bool false) (.slice none 0 0) (.bool false) (.bool false) (.slice none 0 0))
 obtain ⟨g0, g1, g2, g3, g4, g5, f0', f1', f2', f3', f4', f5', _⟩ := HR.out.below hc
 clear hc Hck HR
 go_wp2
 refine bodyPost_ret (res_split rfl _ w.heap.size rfl HP.out.box) rfl ?_
 exact ⟨rfl, HP.out.bel⟩
theorem rsplit_run {n : Nat} {ps qs : List Iv} {Ps Qs : List IvP} {R Lf : Nat → IvP} {M : Nat → Int} (ha : IvsAt w Z A c ps) (hb : IvsAt w Y B d qs) (hp : FmW 8 Ps ps) (hq : FmW 8 Qs qs) (hn : qs.length = n) (hpn : ps.length = n + 1) (h64 : n < 64)
  (hR0 : ∀ (h : 0 < Ps.length), R 0 = Ps[0]) (hM : ∀ k (h : k + 1 < Ps.length), M k = midI Ps[k + 1]) (hMb : ∀ k, k < n → IvN 9 (M k) (M k) ∧ -bigZ < M k ∧ M k < bigZ) (hL : ∀ k (h : k + 1 < Ps.length), Lf k = ivA Ps[k + 1] (ivNg (M k, M k))) (hRs : ∀ k (h2 : k < Qs.length), R (k + 1) = ivA (R k) (ivM (Lf k) Qs[k]) ∧ IvN 30 (ivM (Lf k) Qs[k]).1 (ivM (Lf k) Qs[k]).2) (hRN : ∀ k, k ≤ n → IvN 30 (R k).1 (R k).2) (hLN : ∀ k, k < n → IvN 12 (Lf k).1 (Lf k).2) (hr : IvW (R n) r) :
  Calls Tryz.prog 23 #[.slice A (n + 1) c, .slice B n d] w fun e w' => ∃ Av cv rA ra rB rb, e = .returned (.tuple #[.slice Av (n + 1) cv, .agg #[.bool r.n0, .bool r.s0, .slice rA r.l0.length ra, .bool r.n1, .bool r.s1, .slice rB r.l1.length rb], .int .i64 0]) ∧ VecAt w' old Av cv (encI (nums17 M n)) ∧ U64s w' old rA ra r.l0 ∧ U64s w' old rB rb r.l1 ∧ Below w.heap.size w w' := by
 have hB0 : Below w.heap.size w (w.alloc (.cells #[.bool false, .bool false, .slice none 0 0, .bool false, .bool false, .slice none 0 0] 29)) := (Below.refl _ w).alloc (Nat.le_refl _) _
 have hsz0 : (w.alloc (.cells #[.bool false, .bool false, .slice none 0 0, .bool false, .bool false, .slice none 0 0] 29)).heap.size = w.heap.size + 1 := by simp
 have HZ := hid (BZ.new w 29)
 have hck := rboxed_any (ha.below hB0) (hb.below hB0) (hp.short (by omega)) (hq.short (by omega))
 rw [show errFB ps qs = 0 by unfold errFB; rw [if_pos ⟨hp.err (by omega) (by omega), hq.all (by omega)⟩, if_pos (by omega)]] at hck
 rw [hpn, hn] at hck
 have HPA := hid (fun (W : World) (h : Below w.heap.size w W) => rparts_run (ha.below h) (hb.below h) hp hq hn hpn h64 hR0 hM hMb hL hRs hRN hLN hr)
 generalize hW0 : w.alloc (.cells #[.bool false, .bool false, .slice none 0 0, .bool false, .bool false, .slice none 0 0] 29) = W0 at *
 obtain ⟨Hb0, Hsz, Hck⟩ := hid3 hB0 hsz0 hck
 clear ha hb hp hq hn hpn hR0 hM hMb hL hRs hRN hLN hr hB0 hsz0 hck
 go_enter Tryz.func23, Tryz.ntmps23
 go_wp2_with fail
 try simp only [hW0]
 refine Hck.out.mono ?_
 rintro e w1 ⟨rfl, hc⟩
 have H1 := hid hc
 clear hc hW0 Hck
 go_wp2_with fail
 refine (HPA.out w1 (from_ Hb0.out H1.out)).mono ?_
 rintro e w2 ⟨Av, cv, E0, e0, E1, e1, rfl, hvec, hbv, u0, u1, hc⟩
 go_upto_region 5 with fail
 have hax : Below w2.heap.size w2 (w2.alloc (.cells #[.bool r.n0, .bool r.s0, .slice E0 r.l0.length e0, .bool r.n1, .bool r.s1, .slice E1 r.l1.length e1] 29)) := (Below.refl _ _).alloc (Nat.le_refl _) _
 have R0 := ((HZ.out.below H1.out).below hc).below hax
 have V0 := from_ (from_ (from_ Hb0.out H1.out) hc) hax
 have B0 := Box6.new w2 (.bool r.n0) (.bool r.s0) (.slice E0 r.l0.length e0) (.bool r.n1) (.bool r.s1) (.slice E1 r.l1.length e1) 29
 have u0' := u0.below hax
 have u1' := u1.below hax
 have hv' := hvec.below hax
 have hne : ¬ (w2.heap.size = w.heap.size) := by have := Nat.le_trans H1.out.size hc.size; have := Hsz.out; omega
 have hne2 : ¬ (w.heap.size = w2.heap.size) := fun e => hne e.symm
 have HBV := hid (fun b o e => by have := hbv b o e; have := H1.out.size; have := Hsz.out; omega : ∀ b o, Av = some ⟨b, o, none⟩ → b ≠ w.heap.size)
 generalize w2.alloc (.cells #[.bool r.n0, .bool r.s0, .slice E0 r.l0.length e0, .bool r.n1, .bool r.s1, .slice E1 r.l1.length e1] 29) = V at *
 generalize w2.heap.size = g9 at *
 have hdr : Below V.heap.size V V.drew := bdr_
 obtain ⟨y0, y1, y2, y3, y4, y5, _, _, _, _, _, _, _⟩ := B0
 obtain ⟨z0, z1, z2, z3, z4, z5⟩ := And.intro (keepC hdr y0) (And.intro (keepC hdr y1) (And.intro (keepC hdr y2) (And.intro (keepC hdr y3) (And.intro (keepC hdr y4) (keepC hdr y5)))))
 have HP := hid ((R0.own (q := r) u0' u1').below bdr_)
 have HPl := hid (R0.box.put (w := w) V0 (Nat.le_refl _) (.bool r.n0) (.bool r.s0) (.slice E0 r.l0.length e0) (.bool r.n1) (.bool r.s1) (.slice E1 r.l1.length e1)).bel.drew
 have HVe := hid ((hv'.st6n R0.noU HBV.out (.bool r.n0) (.bool r.s0) (.slice E0 r.l0.length e0) (.bool r.n1) (.bool r.s1) (.slice E1 r.l1.length e1)).below bdr_)
 obtain ⟨g0, g1, g2, g3, g4, g5, f0', f1', f2', f3', f4', f5', _⟩ := id R0.box
 clear hvec hbv u0 u1 hc hdr R0 V0 u0' u1' hv'
 go_region
 go_wp2
 refine bodyPost_ret (res_split rfl _ w.heap.size rfl HP.out.box) rfl ?_
 exact ⟨_, _, _, _, _, _, rfl, HVe.out, HP.out.u0, HP.out.u1, HPl.out⟩
end Go.Proofs.YthpngihjcphigaaGreat
