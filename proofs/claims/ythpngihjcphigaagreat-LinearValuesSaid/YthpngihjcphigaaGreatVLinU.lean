/- Linear forms, the program's: Value of a form and a box given by numbers. No conditions but bounds on lengths. -/
import Derived.OneCell
import Derived.Deep.RegionHeld3
import Derived.Test.YthpngihjcphigaaGreatVTelC
import Derived.Test.YthpngihjcphigaaGreatVVecK
import Derived.Test.YthpngihjcphigaaGreatVItvV
set_option linter.unusedVariables false
set_option linter.unusedSimpArgs false
set_option maxRecDepth 100000
set_option maxHeartbeats 40000000
namespace Go.Proofs.YthpngihjcphigaaGreat
open Go.Lib (hid)
open Go.RowKit
variable {A : Option Addr} {B N b c g i j : Nat} {a d e f : Value} {l : List Nat} {w : World} {x : Int} {xs : List Value}
def offS (B g : Nat) : Zone := ⟨fun b => B ≤ b ∧ b ≠ g, True⟩
theorem new_offS {C : Nat} (h : B ≤ C) (hg : g < C) : (new C).le (offS B g) := ⟨fun b hb => by have h1 : C ≤ b := hb; exact ⟨by omega, by omega⟩, fun h => h⟩
theorem U64s.offY (h : U64s w (offS B g) A c l) {v : Value} : U64s (w.setCell ⟨g, j, none⟩ v) (offS B g) A c l :=
 h.keep fun b hb _ => Below.heap_setCell _ _ _ _ hb.2
structure OutI (w : World) (B g n : Nat) (zs : List Int) (xs : List Value) : Prop where
 own : w.ownsRow B 25 2 (.slice (some ⟨g, 0, none⟩) n n) n xs
 len : zs.length = n
 cells : ∀ j (hj : j < zs.length), ∃ s A l c, xs[j * 2]? = some (.bool s) ∧ xs[j * 2 + 1]? = some (.slice A (l : List Nat).length c) ∧ U64s w (offS B g) A c l ∧ Nm zs[j] s l
theorem made_twoI {n : Nat} (h : i < n * 2) : (madeCells (Value.agg #[.bool false, .slice none 0 0]).cells (n * 2)).toList[i]? = some (if i % 2 = 0 then .bool false else .slice none 0 0) := by
 have e : (Value.agg #[.bool false, .slice none 0 0]).cells = #[.bool false, .slice none 0 0] := rfl
 rw [e, Array.getElem?_toList]
 unfold madeCells
 rw [Array.getElem?_map, Array.getElem?_eq_getElem (by simpa using h)]
 simp only [Array.getElem_range, Option.map_some]
 rcases Nat.mod_two_eq_zero_or_one i with h | h
 · simp [h]
 · simp [h]
theorem OutI.zero {n : Nat} (h : w.ownsRow B 25 2 (.slice (some ⟨g, 0, none⟩) n n) n xs) (hx : xs = (madeCells (Value.agg #[.bool false, .slice none 0 0]).cells (n * 2)).toList) : OutI w B g n (List.replicate n 0) xs := by
 refine ⟨h, by simp, fun j hj => ?_⟩
 rw [List.length_replicate] at hj
 have e0 : limbs (0 : Int).natAbs = [] := limbs_eq_nil.2 rfl
 refine ⟨false, none, [], 0, ?_, ?_, U64s.nil _ _, ?_⟩
 · rw [hx, made_twoI (by omega), if_pos (by omega)]
 · rw [hx, made_twoI (by omega), if_neg (by omega)]; rfl
 · rw [List.getElem_replicate]; exact ⟨rfl, e0.symm⟩
theorem OutI.below {w' : World} {n : Nat} {zs : List Int} (h : OutI w B g n zs xs) (hb : Below w.heap.size w w') : OutI w' B g n zs xs := by
 refine ⟨own_below h.own hb, h.len, fun j hj => ?_⟩
 obtain ⟨s, A, l, c, h0, h1, hu, hn⟩ := h.cells j hj
 exact ⟨s, A, l, c, h0, h1, hu.below hb, hn⟩
theorem OutI.at {n : Nat} {zs : List Int} (h : OutI w B g n zs xs) (hi : i < n) : ∃ x0 x1, w.cell? ⟨g, i * 2, none⟩ = some x0 ∧ w.cell? ⟨g, i * 2 + 1, none⟩ = some x1 ∧ w.frozen? ⟨g, i * 2, none⟩ = false ∧ w.frozen? ⟨g, i * 2 + 1, none⟩ = false := by
 have d0 := h.own.cellAt (i * 2) (by omega)
 have d1 := h.own.cellAt (i * 2 + 1) (by omega)
 obtain ⟨s, A, l, c, h0, h1, _, _⟩ := h.cells i (by have := h.len; omega)
 exact ⟨_, _, d0.trans h0, d1.trans h1, h.own.frozenAt _, h.own.frozenAt _⟩
theorem OutI.lt {n : Nat} {zs : List Int} (h : OutI w B g n zs xs) : B ≤ g ∧ g < w.heap.size := h.own.lt g rfl
theorem OutI.set {n : Nat} {zs : List Int} {s : Bool} {z : Int} (h : OutI w B g n zs xs) (hi : i < n) (hu : U64s w (offS B g) A c l) (hz : Nm z s l) :
  OutI ((w.setCell ⟨g, i * 2, none⟩ (.bool s)).setCell ⟨g, i * 2 + 1, none⟩ (.slice A l.length c)) B g n (zs.set i z) ((xs.set (i * 2) (.bool s)).set (i * 2 + 1) (.slice A l.length c)) := by
 have o1 := (h.own.stored (i * 2) (.bool s)).1
 have o2 := (o1.stored (i * 2 + 1) (.slice A l.length c)).1
 have hxl := h.own.1
 have hzl := h.len
 refine ⟨o2, by rw [List.length_set, hzl], fun j hj => ?_⟩
 rw [List.length_set] at hj
 by_cases hji : j = i
 · subst hji
   refine ⟨s, A, l, c, ?_, ?_, (hu.offY).offY, ?_⟩
   · rw [List.getElem?_set_ne (by omega), List.getElem?_set_self (by omega)]
   · rw [List.getElem?_set_self (by rw [List.length_set]; omega)]
   · rw [List.getElem_set_self]; exact hz
 · obtain ⟨s', A', l', c', h0, h1, hu', hn'⟩ := h.cells j hj
   refine ⟨s', A', l', c', ?_, ?_, (hu'.offY).offY, ?_⟩
   · rw [List.getElem?_set_ne (by omega), List.getElem?_set_ne (by omega)]; exact h0
   · rw [List.getElem?_set_ne (by omega), List.getElem?_set_ne (by omega)]; exact h1
   · rw [List.getElem_set_ne (by omega)]; exact hn'
theorem OutI.other {n : Nat} {zs : List Int} (h : OutI w B g n zs xs) (hb : b < B) (v : Value) : OutI (w.setCell ⟨b, j, none⟩ v) B g n zs xs := by
 have hl := h.lt
 refine ⟨ownsRow_setCell_other h.own (fun e => ?_) v, h.len, fun i hi => ?_⟩
 · have : g = b := Option.some.inj e
   omega
 · obtain ⟨s, A, l, c, h0, h1, hu, hn⟩ := h.cells i hi
   exact ⟨s, A, l, c, h0, h1, hu.keep fun b' hb' _ => Below.heap_setCell _ _ _ _ (by have := hb'.1; show b' ≠ b; omega), hn⟩
theorem OutI.other6 {n : Nat} {zs : List Int} (h : OutI w B g n zs xs) (hb : b < B) (x0 x1 x2 x3 x4 x5 : Value) :
  OutI ((((((w.setCell ⟨b, 0, none⟩ x0).setCell ⟨b, 1, none⟩ x1).setCell ⟨b, 2, none⟩ x2).setCell ⟨b, 3, none⟩ x3).setCell ⟨b, 4, none⟩ x4).setCell ⟨b, 5, none⟩ x5) B g n zs xs :=
 (((((h.other hb x0).other hb x1).other hb x2).other hb x3).other hb x4).other hb x5
def encI (zs : List Int) : List (Bool × List Nat) := zs.map fun z => (decide (z < 0), limbs z.natAbs)
theorem encI_len (zs : List Int) : (encI zs).length = zs.length := List.length_map _
theorem encI_get {zs : List Int} (h : j < (encI zs).length) (h' : j < zs.length) : (encI zs)[j] = (decide (zs[j] < 0), limbs (zs[j]).natAbs) := List.getElem_map _
theorem OutI.vec {B' n : Nat} {zs : List Int} (h : OutI w B g n zs xs) (hB : B' ≤ B) (hn : n ≤ 1000000) : VecAt w (new B') (some ⟨g, 0, none⟩) n (encI zs) := by
 have hzl := h.len
 have hlt := h.lt
 refine ⟨by rw [encI_len]; omega, by omega, fun h0 => ⟨g, 0, rfl, (show B' ≤ g by omega), hlt.2, fun _ j => by rw [Nat.zero_add]; exact h.own.frozenAt j, fun j hj => ?_⟩⟩
 have hj' : j < zs.length := by rw [encI_len] at hj; exact hj
 obtain ⟨s, A, l, c, c0, c1, hu, hnm⟩ := h.cells j hj'
 have e : (encI zs)[j] = (s, l) := by rw [encI_get hj hj', hnm.1, hnm.2]
 rw [e]
 exact ⟨A, c, by rw [Nat.zero_add, h.own.cellAt (j * 2) (by omega)]; exact c0, by rw [Nat.zero_add, h.own.cellAt (j * 2 + 1) (by omega)]; exact c1, hu.mono ((⟨fun b hb => Nat.le_trans hB hb.1, fun h => h⟩ : (offS B g).le (new B')))⟩
theorem Box6.other {W : World} {b c : Value} (h : Box6 W g a b c d e f) {k : Nat} (hn : k ≠ g) (v : Value) : Box6 (W.setCell ⟨k, j, none⟩ v) g a b c d e f := by
 obtain ⟨h0, h1, h2, h3, h4, h5, f0, f1, f2, f3, f4, f5, hl⟩ := h
 refine ⟨?_, ?_, ?_, ?_, ?_, ?_, ?_, ?_, ?_, ?_, ?_, ?_, ?_⟩
 · rw [World.cell?_setCell_other _ _ _ _ (fun e => hn (by injection e))]; exact h0
 · rw [World.cell?_setCell_other _ _ _ _ (fun e => hn (by injection e))]; exact h1
 · rw [World.cell?_setCell_other _ _ _ _ (fun e => hn (by injection e))]; exact h2
 · rw [World.cell?_setCell_other _ _ _ _ (fun e => hn (by injection e))]; exact h3
 · rw [World.cell?_setCell_other _ _ _ _ (fun e => hn (by injection e))]; exact h4
 · rw [World.cell?_setCell_other _ _ _ _ (fun e => hn (by injection e))]; exact h5
 · exact (World.frozen?_setCell _ _ _ _).trans f0
 · exact (World.frozen?_setCell _ _ _ _).trans f1
 · exact (World.frozen?_setCell _ _ _ _).trans f2
 · exact (World.frozen?_setCell _ _ _ _).trans f3
 · exact (World.frozen?_setCell _ _ _ _).trans f4
 · exact (World.frozen?_setCell _ _ _ _).trans f5
 · simpa [World.setCell] using hl
theorem res_split {fn : Func} {p q u : Tmp} (h : fn.results = #[.tmp q, .cell p 29, .tmp u]) (tmps : Array Value) (g : Nat) {b c : Value} (hp : tmps.getD p undef = .pointer (some ⟨g, 0, none⟩)) (hB : Box6 w g a b c d e f) :
  (results fn tmps).run Tryz.prog w = .ok (.tuple #[tmps.getD q undef, .agg #[a, b, c, d, e, f], tmps.getD u undef]) w := by
 have hp' : tmps[p]?.getD undef = .pointer (some ⟨g, 0, none⟩) := by simpa using hp
 simp [results, h, hp', asAddr, loadVar_itv hB, Sem.run_bind, Result.andThen]
theorem lvalue_bad {Z Y : Zone} {B : Option Addr} {d : Nat} {ps qs : List Iv} {g : Int} (ha : IvsAt w Z A c ps) (hb : IvsAt w Y B d qs) (hs : ∀ p ∈ ps, p.short) (hs2 : ∀ p ∈ qs, p.short) (hg : errFB ps qs = g) (h0 : g ≠ 0) :
  Calls Tryz.prog 20 #[.slice A ps.length c, .slice B qs.length d] w fun e w' => e = .returned (.tuple #[.agg #[.bool false, .bool false, .slice none 0 0, .bool false, .bool false, .slice none 0 0], .int .i64 g]) ∧ Below w.heap.size w w' := by
 have hB0 : Below w.heap.size w (w.alloc (.cells #[.bool false, .bool false, .slice none 0 0, .bool false, .bool false, .slice none 0 0] 29)) := (Below.refl _ w).alloc (Nat.le_refl _) _
 have hR4 := Box6.new w (.bool false) (.bool false) (.slice none 0 0) (.bool false) (.bool false) (.slice none 0 0) 29
 have hck := lchecked_any (ha.below hB0) (hb.below hB0) hs hs2
 rw [hg] at hck
 have t1 : (g != 0) = true := bne_iff_ne.2 h0
 obtain ⟨HR, Hb0, Hck⟩ := hid3 hR4 hB0 hck
 clear ha hb hs hs2 hg h0 hR4 hB0 hck
 generalize ps.length = L at *
 generalize qs.length = M at *
 go_enter Tryz.func20, Tryz.ntmps20
 go_wp2_with fail
 refine Hck.out.mono ?_
 rintro e w1 ⟨rfl, hc⟩
 have R4 := HR.out.below hc
 have HP := hid (R4.put (w := w) (from_ Hb0.out hc) (Nat.le_refl _) (.bool false) (.bool false) (.slice none 0 0) (.bool false) (.bool false) (.slice none 0 0))
 obtain ⟨g0, g1, g2, g3, g4, g5, f0', f1', f2', f3', f4', f5', _⟩ := R4
 clear hc
 go_wp2
 refine bodyPost_ret (res_itv2 rfl _ w.heap.size rfl HP.out.box) rfl ?_
 exact ⟨rfl, HP.out.bel⟩
def hdF (Ps : List IvP) : IvP := Ps.headD (0, 0)
def prF (Ps Qs : List IvP) : List (IvP × IvP) := Ps.tail.zip Qs
theorem hdF_get {Ps : List IvP} (h : 0 < Ps.length) : hdF Ps = Ps[0] := by
 cases Ps with
 | nil => cases h
 | cons a t => rfl
theorem prF_len {Ps Qs : List IvP} (h : Ps.length = Qs.length + 1) : (prF Ps Qs).length = Qs.length := by
 unfold prF
 rw [List.length_zip, List.length_tail]
 omega
theorem prF_get {Ps Qs : List IvP} {k : Nat} (h : k < (prF Ps Qs).length) (h1 : k + 1 < Ps.length) (h2 : k < Qs.length) : (prF Ps Qs)[k] = (Ps[k + 1], Qs[k]) := by
 unfold prF at h ⊢
 rw [List.getElem_zip, List.getElem_tail]
theorem tq_small : (tq x 2).natAbs * 2 ≤ x.natAbs := by
 unfold tq
 have h : x.natAbs / (2 : Int).natAbs * 2 ≤ x.natAbs := Nat.div_mul_le_self _ _
 generalize x.natAbs / (2 : Int).natAbs = q at *
 split <;> omega
theorem rq_small : (rq x 2 true).natAbs * 2 ≤ x.natAbs + 2 := by
 have h := tq_small (x := x)
 unfold rq
 generalize tq x 2 = q at *
 split
 · simp only [if_true]; omega
 · omega
theorem midI_ok {P : IvP} (h : IvN 8 P.1 P.2) : IvN 9 (midI P) (midI P) ∧ (-bigZ < midI P ∧ midI P < bigZ) ∧ (-wN 9 < midI P ∧ midI P < wN 9) := by
 have h9 : wN 8 + wN 8 ≤ wN 9 := wN_two 8
 have hp := wN_pos 8
 have h8 : wN 9 ≤ bigZ := wN_le (by omega)
 have hb : -wN 9 < midI P ∧ midI P < wN 9 := by
  unfold midI
  split
  · omega
  · rename_i hn
    have a1 := h.lo
    have a2 := h.hi
    have h1 := rq_small (x := P.1 + P.2)
    generalize rq (P.1 + P.2) 2 true = r at *
    unfold Ext at a1 a2
    have := h.nlo
    have := h.nhi
    have e1 : -wN 8 < P.1 ∧ P.1 < wN 8 := by omega
    have e2 : -wN 8 < P.2 ∧ P.2 < wN 8 := by omega
    omega
 exact ⟨⟨.inr (.inr hb), .inr (.inr hb), Int.le_refl _, by omega, by omega⟩, by omega, hb⟩
def rowL (Ps : List IvP) : List Int := 0 :: Ps.tail.map midI
def lessI (P : IvP) : IvP := ivA P (ivNg (midI P, midI P))
def prS (Ps Qs : List IvP) : List (IvP × IvP) := (Ps.tail.map lessI).zip Qs
theorem prS_len {Ps Qs : List IvP} (h : Ps.length = Qs.length + 1) : (prS Ps Qs).length = Qs.length := by
 unfold prS
 rw [List.length_zip, List.length_map, List.length_tail]
 omega
theorem prS_get {Ps Qs : List IvP} {k : Nat} (h : k < (prS Ps Qs).length) (h1 : k + 1 < Ps.length) (h2 : k < Qs.length) : (prS Ps Qs)[k] = (lessI Ps[k + 1], Qs[k]) := by
 unfold prS at h ⊢
 rw [List.getElem_zip, List.getElem_map, List.getElem_tail]
theorem lessI_ok {P : IvP} (h : IvN 8 P.1 P.2) : IvN 12 (lessI P).1 (lessI P).2 :=
 (ivA_ok (h.up (by omega)) (ivNg_ok (midI_ok h).1) (by omega)).up (by omega)
def rowS (Ps : List IvP) : Nat → List Int
 | 0 => List.replicate Ps.length 0
 | k + 1 => (rowS Ps k).set (k + 1) (midI (Ps.getD (k + 1) (0, 0)))
theorem rowS_len (Ps : List IvP) (k : Nat) : (rowS Ps k).length = Ps.length := by
 induction k with
 | zero => simp [rowS]
 | succ k ih => simp [rowS, ih]
theorem rowS_get {Ps : List IvP} : ∀ (k j : Nat) (h : j < (rowS Ps k).length), (rowS Ps k)[j] = if 0 < j ∧ j ≤ k then midI (Ps.getD j (0, 0)) else 0 := by
 intro k
 induction k with
 | zero =>
   intro j h
   rw [if_neg (by omega)]
   simp [rowS]
 | succ k ih =>
   intro j h
   simp only [rowS]
   rw [List.getElem_set]
   by_cases hj : k + 1 = j
   · subst hj
     rw [if_pos rfl, if_pos (by omega)]
   · rw [if_neg hj, ih j (by rw [rowS_len] at h ⊢; exact h)]
     by_cases h2 : 0 < j ∧ j ≤ k
     · rw [if_pos h2, if_pos (by omega)]
     · rw [if_neg h2, if_neg (by omega)]
theorem rowS_all {Ps : List IvP} {n : Nat} (h : Ps.length = n + 1) : rowS Ps n = rowL Ps := by
 refine List.ext_getElem ?_ fun j h1 h2 => ?_
 · rw [rowS_len, rowL, List.length_cons, List.length_map, List.length_tail]; omega
 · rw [rowS_get]
   rw [rowS_len] at h1
   rcases j with _ | j
   · rw [if_neg (by omega)]; rfl
   · rw [if_pos (by omega)]
     simp only [rowL]
     rw [List.getElem_cons_succ, List.getElem_map, List.getElem_tail, List.getD_eq_getElem?_getD, List.getElem?_eq_getElem h1]
     rfl
def Iv.P (p : Iv) : IvP := (p.lo, p.hi)
theorem iv_of {p : Iv} (h : p.ok = true) (m0 : Small p.l0) (m1 : Small p.l1) (q0 : p.l0.length ≤ N) (q1 : p.l1.length ≤ N) (hN : N ≤ 60) : IvW p.P p ∧ IvN N p.P.1 p.P.2 := by
 have hf : p.fine 60 := ⟨m0, m1, by omega, by omega⟩
 have e := Iv.is h hf
 obtain ⟨h1, h2⟩ := okA_ends h
 have r1 := lo_range (n := p.n0) (s := p.s0) m0 (show p.l0.length ≤ 60 by omega)
 have r2 := hi_range (n := p.n1) (s := p.s1) m1 (show p.l1.length ≤ 60 by omega)
 have hle := okA_le h m0 m1 (by omega) (by omega)
 obtain ⟨b, s', l', A', c', P⟩ := Plc.ex (-1) p.n0 p.s0 p.l0 none 0
 obtain ⟨d, t', k', B', e', Q⟩ := Plc.ex 1 p.n1 p.s1 p.l1 none 0
 have u := P.lo h1 m0 (show p.l0.length ≤ 60 by omega)
 have v := Q.hi h2 m1 (show p.l1.length ≤ 60 by omega)
 have g1 := P.len
 have g2 := Q.len
 refine ⟨?_, u.ext (by omega), v.ext (by omega), hle, r1.2, r2.1⟩
 have hk := IvW.mk (p.lo, p.hi)
 unfold Iv.P
 rw [show ivOf (p.lo, p.hi).1 (p.lo, p.hi).2 = p from e.symm] at hk
 exact hk
theorem fmw_of {ps : List Iv} (h : ps.all Iv.ok = true) (hs : ∀ p ∈ ps, Small p.l0 ∧ Small p.l1) (hl : ∀ p ∈ ps, p.l0.length ≤ N ∧ p.l1.length ≤ N) (hN : N ≤ 60) : FmW N (ps.map Iv.P) ps := by
 refine ⟨(List.length_map _).symm, fun j h1 h2 => ?_⟩
 have hm : ps[j] ∈ ps := List.getElem_mem h1
 rw [List.getElem_map]
 exact iv_of (List.all_eq_true.1 h _ hm) (hs _ hm).1 (hs _ hm).2 (hl _ hm).1 (hl _ hm).2 hN
end Go.Proofs.YthpngihjcphigaaGreat
