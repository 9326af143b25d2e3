/- flow.Check of any graph: what it tells where it says yes. No conditions. -/
import Derived.Maps.RangeWalk
import Derived.Maps.Views
import Derived.Deep.CutRange
import Derived.StillTailTactics
import Derived.Test.YtdncgncijbnjpaaGreatRWhV
import Derived.Test.YtdncgncijbnjpaaGreatRLnE
set_option linter.unusedVariables false
set_option linter.unusedSimpArgs false
set_option maxRecDepth 100000
set_option maxHeartbeats 40000000
namespace Go.Proofs.YtdncgncijbnjpaaGreat
open Go.Lib (hid)
open Go.RowKit
variable {A Aa : Option Addr} {B b c ca d j na : Nat} {V key nodes x : Int} {W W' w' : World} {a e f v' : Value}
def R0 (v : Value) : Option (DataW Value × List MemPlace) := some (.held v, [])
theorem keyI : Go.Maps.Keyed Tryz.prog 3 := Go.Maps.int_keyed Tryz.underlying3
theorem keyI_mk (hw : (Lit.int .i64 key).wf = true) : keyOf Tryz.prog 3 (.int .i64 key) = some (.int .i64 key) := Go.Maps.keyOf_int_mk Tryz.underlying3 hw
def SaysE (D : DataW Value) (has : Int → Bool) (φ : Int → Value) : Prop := Go.Maps.IsMap D ∧ ∀ key, (Lit.int .i64 key).wf = true → ∀ zd, D.atKey (.int .i64 key) zd = bif has key then .held (φ key) else zd
theorem zeroEs (w : World) : (zeroValue 23).run Tryz.prog w = .ok (.slice none 0 0) w := by
 go_simp
theorem look_e {w : World} {n : Nat} {D : DataW Value} {has : Int → Bool} {φ : Int → Value} (h : w.ownsMap Tryz.prog 3 R0 b n D) (hs : SaysE D has φ) (hn : ∀ key, has key = false → φ key = .slice none 0 0) (hw : (Lit.int .i64 key).wf = true) :
  (Instr.lookup 125 (.map (some b)) (.int .i64 key) false).run Tryz.prog w = .ok (φ key) w := by
 obtain ⟨v, E, C, B⟩ := h.lookup keyI Tryz.underlying125 (zeroEs w) (zd := .held (.slice none 0 0)) (zp := []) rfl (keyI_mk hw)
 rw [hs.2 key hw] at B
 simp only [R0, Option.some.injEq, Prod.mk.injEq] at B
 cases hh : has key with
 | true =>
   rw [hh] at B
   have : v = φ key := by have := B.1; simpa using this
   rw [← this]
   exact C
 | false =>
   rw [hh] at B
   have : v = .slice none 0 0 := by have := B.1; simpa using this
   rw [hn key hh, ← this]
   exact C
def idxE (es : List Ed) (k : Nat) (key : Int) : List Nat := (List.range k).filter fun j => decide ((es[j]?).map (·.f) = some key)
theorem idxE_succ {es : List Ed} {k : Nat} (hk : k < es.length) (key : Int) : idxE es (k + 1) key = if es[k].f = key then idxE es k key ++ [k] else idxE es k key := by
 unfold idxE
 rw [List.range_succ, List.filter_append]
 by_cases h : es[k].f = key
 · rw [if_pos h]
   simp [List.getElem?_eq_getElem hk, h]
 · rw [if_neg h]
   simp [List.getElem?_eq_getElem hk, h]
theorem idxE_le (es : List Ed) (k : Nat) (key : Int) : (idxE es k key).length ≤ k := by
 unfold idxE
 exact Nat.le_trans (List.length_filter_le _ _) (by simp)
def edL (es : List Ed) (AA : Nat → Option Addr) (CC : Nat → Nat) (j : Nat) : List Value := [edC es AA CC j 0, edC es AA CC j 1, edC es AA CC j 2, edC es AA CC j 3, edC es AA CC j 4, edC es AA CC j 5, edC es AA CC j 6]
def hasE (es : List Ed) (k : Nat) (key : Int) : Bool := decide (0 < (idxE es k key).length)
structure OutsR (w : World) (B b : Nat) (es : List Ed) (AA : Nat → Option Addr) (CC : Nat → Nat) (k : Nat) (φ : Int → Value) : Prop where
 own : ∀ key, w.ownsRow B 73 7 (φ key) (idxE es k key).length ((idxE es k key).flatMap (edL es AA CC))
 apart : ∀ k1 k2, k1 ≠ k2 → ∀ g, (φ k1).ownBlock = some g → (φ k2).ownBlock ≠ some g
 off : ∀ key, (φ key).ownBlock ≠ some b
 lt : b < w.heap.size
 nul : ∀ key, hasE es k key = false → φ key = .slice none 0 0
theorem OutsR.zero {w : World} (es : List Ed) (AA : Nat → Option Addr) (CC : Nat → Nat) (h : b < w.heap.size) : OutsR w B b es AA CC 0 fun _ => .slice none 0 0 :=
 ⟨fun key => World.ownsRow_nil _ _ _ _, fun _ _ _ g h => by simp [Value.ownBlock] at h, fun _ => by simp [Value.ownBlock], h, fun _ _ => rfl⟩
theorem OutsR.kept {w : World} {es : List Ed} {AA : Nat → Option Addr} {CC : Nat → Nat} {k : Nat} {φ : Int → Value} {row : Option Nat} (h : OutsR w B b es AA CC k φ) (hg : w.grownBy w' row) (hr : ∀ key, (φ key).ownBlock = none ∨ (φ key).ownBlock ≠ row) : OutsR w' B b es AA CC k φ :=
 ⟨fun key => (h.own key).kept hg (hr key), h.apart, h.off, Nat.lt_of_lt_of_le h.lt hg.size, h.nul⟩
theorem OutsR.alloc {w : World} {es : List Ed} {AA : Nat → Option Addr} {CC : Nat → Nat} {k : Nat} {φ : Int → Value} (h : OutsR w B b es AA CC k φ) (o : Obj) : OutsR (w.alloc o) B b es AA CC k φ :=
 h.kept (World.grownBy_alloc w o none) fun key => by
  cases (φ key).ownBlock with
  | none => exact .inl rfl
  | some g => exact .inr (by simp)
theorem OutsR.drew {w : World} {es : List Ed} {AA : Nat → Option Addr} {CC : Nat → Nat} {k : Nat} {φ : Int → Value} (h : OutsR w B b es AA CC k φ) : OutsR w.drew B b es AA CC k φ :=
 ⟨h.own, h.apart, h.off, h.lt, h.nul⟩
theorem edL_size (es : List Ed) (AA : Nat → Option Addr) (CC : Nat → Nat) (j : Nat) : (edL es AA CC j).length = 7 := rfl
theorem OutsR.step {W'' : World} {es : List Ed} {AA : Nat → Option Addr} {CC : Nat → Nat} {k : Nat} {φ : Int → Value} (h : OutsR W B b es AA CC k φ) (hk : k < es.length)
  (hown : W'.ownsRow B 73 7 v' ((idxE es k es[k].f).length + 1) ((idxE es k es[k].f).flatMap (edL es AA CC) ++ edL es AA CC k)) (hg : W.grownBy W' (φ es[k].f).ownBlock) (hf : Fresh W (φ es[k].f) v') (hg2 : W'.grownBy W'' (some b)) :
  OutsR W'' B b es AA CC (k + 1) fun key => if key = es[k].f then v' else φ key := by
 have C : ∀ key, key ≠ es[k].f → ∀ g, v'.ownBlock = some g → (φ key).ownBlock ≠ some g := by
  intro key hne g hg1 hg2
  rcases hf with e | e
  · rw [e] at hg1
    exact h.apart _ _ (Ne.symm hne) g hg1 hg2
  · have A := e g hg1
    have E := ((h.own key).lt g hg2).2
    omega
 have D : v'.ownBlock ≠ some b := by
  intro e1
  rcases hf with e | e
  · rw [e] at e1
    exact h.off _ e1
  · have A := e b e1
    have E := h.lt
    omega
 have F : ∀ v : Value, v.ownBlock ≠ some b → v.ownBlock = none ∨ v.ownBlock ≠ some b := fun v h => .inr h
 refine ⟨fun key => ?_, ?_, ?_, Nat.lt_of_lt_of_le h.lt (Nat.le_trans hg.size hg2.size), ?_⟩
 · rw [idxE_succ hk]
   by_cases he : key = es[k].f
   · subst he
     rw [if_pos rfl, if_pos rfl, List.length_append, List.flatMap_append, List.flatMap_singleton]
     exact hown.kept hg2 (.inr D)
   · rw [if_neg he, if_neg (Ne.symm he)]
     refine ((h.own key).kept hg ?_).kept hg2 (.inr (h.off key))
     cases hb : (φ key).ownBlock with
     | none => exact .inl rfl
     | some g => exact .inr fun e => h.apart _ _ he g hb e.symm
 · intro k1 k2 hne g A
   by_cases e1 : k1 = es[k].f
   · rw [if_pos e1] at A
     rw [if_neg (fun e => hne (e1.trans e.symm))]
     exact C k2 (fun e => hne (e1.trans e.symm)) g A
   · rw [if_neg e1] at A
     by_cases e2 : k2 = es[k].f
     · rw [if_pos e2]
       exact fun e => C k1 e1 g e A
     · rw [if_neg e2]
       exact h.apart k1 k2 hne g A
 · intro key
   by_cases e1 : key = es[k].f
   · rw [if_pos e1]; exact D
   · rw [if_neg e1]; exact h.off key
 · intro key hh
   unfold hasE at hh
   rw [idxE_succ hk] at hh
   by_cases e1 : key = es[k].f
   · rw [if_pos e1.symm] at hh
     simp at hh
   · rw [if_neg e1]
     rw [if_neg (Ne.symm e1)] at hh
     exact h.nul key hh
theorem SaysE.zero' (es : List Ed) : SaysE (.map []) (hasE es 0) fun _ => .slice none 0 0 := ⟨⟨_, rfl⟩, fun _ _ _ => rfl⟩
theorem SaysE.step {D : DataW Value} {es : List Ed} {k : Nat} {φ : Int → Value} (h : SaysE D (hasE es k) φ) (hk : k < es.length) (hw : (Lit.int .i64 es[k].f).wf = true) :
  SaysE (D.put (.int .i64 es[k].f) (.held v')) (hasE es (k + 1)) fun key => if key = es[k].f then v' else φ key := by
 have A := keyI.key (keyI_mk hw)
 refine ⟨Go.Maps.IsMap.put h.1 _ _, fun key hw' zd => ?_⟩
 unfold hasE
 rw [idxE_succ hk]
 by_cases e1 : key = es[k].f
 · subst e1
   rw [if_pos rfl, Go.Maps.atKey_put_same h.1 A]
   simp
 · have B : ¬ es[k].f = key := Ne.symm e1
   rw [Go.Maps.atKey_put_other (fun e => e1 (by injection e)), h.2 key hw' zd]
   simp [hasE, e1, B]
theorem edC_0 {l : List Ed} {AA : Nat → Option Addr} {CC : Nat → Nat} (hj : j < l.length) : edC l AA CC j 0 = .int .i64 l[j].f := by simp [edC, List.getElem?_eq_getElem hj]
theorem edC_1 {l : List Ed} {AA : Nat → Option Addr} {CC : Nat → Nat} (hj : j < l.length) : edC l AA CC j 1 = .int .i64 l[j].t := by simp [edC, List.getElem?_eq_getElem hj]
theorem edC_2 {l : List Ed} {AA : Nat → Option Addr} {CC : Nat → Nat} (hj : j < l.length) : edC l AA CC j 2 = .int .u8 l[j].k := by simp [edC, List.getElem?_eq_getElem hj]
theorem edC_3 {l : List Ed} {AA : Nat → Option Addr} {CC : Nat → Nat} (hj : j < l.length) : edC l AA CC j 3 = .int .i64 l[j].n := by simp [edC, List.getElem?_eq_getElem hj]
theorem edC_4 {l : List Ed} {AA : Nat → Option Addr} {CC : Nat → Nat} (hj : j < l.length) : edC l AA CC j 4 = .int .u8 l[j].cmp := by simp [edC, List.getElem?_eq_getElem hj]
theorem edC_5 {l : List Ed} {AA : Nat → Option Addr} {CC : Nat → Nat} (hj : j < l.length) : edC l AA CC j 5 = .slice (AA j) l[j].l.length (CC j) := by simp [edC, List.getElem?_eq_getElem hj]
theorem edC_6 {l : List Ed} {AA : Nat → Option Addr} {CC : Nat → Nat} (hj : j < l.length) : edC l AA CC j 6 = .int .i64 l[j].p := by simp [edC, List.getElem?_eq_getElem hj]
theorem infoEd : (Tryz.prog.info? 73).map (fun i => (i.zero, i.size, i.bytes)) = some (some (.agg #[.int .i64 0, .int .i64 0, .int .u8 0, .int .i64 0, .int .u8 0, .slice none 0 0, .int .i64 0]), 7, 72) := by kernel_rfl
theorem seven_news {b c d g : Value} {t : TypeId} : ∀ j u, [a, b, c, d, e, f, g][j]? = some u → (W.alloc (.cells #[a, b, c, d, e, f, g] t)).cell? ⟨W.heap.size, j, none⟩ = some u := by
 intro j u h
 rcases j with _ | _ | _ | _ | _ | _ | _ | j
 all_goals
  simp at h
  try (subst h; exact cell_newest rfl rfl)
theorem fouts_any {w : World} {g0 g1 g2 g3 g4 : Value} {es : List Ed} {AA : Nat → Option Addr} {CC : Nat → Nat} (he : EdsAt w d A c es AA CC) (hl : es.length ≤ 100000000) (hw : ∀ e ∈ es, (Lit.int .i64 e.f).wf = true) :
  Calls Tryz.prog 72 #[.agg #[g0, g1, g2, g3, g4, .slice A es.length c]] w fun r w' => ∃ b n D φ, r = .returned (.map (some b)) ∧ w.heap.size ≤ b ∧ n ≤ es.length ∧ w'.ownsMap Tryz.prog 3 R0 b n D ∧ SaysE D (hasE es es.length) φ ∧ OutsR w' w.heap.size b es AA CC es.length φ ∧ Below w.heap.size w w' := by
 have S : Below w.heap.size w (w.alloc (.cells #[g0, g1, g2, g3, g4, .slice A es.length c] 25)) := (Below.refl _ _).alloc (Nat.le_refl _) _
 have Ka := S.alloc S.size (.map #[] 0)
 have z5 : (w.alloc (.cells #[g0, g1, g2, g3, g4, .slice A es.length c] 25)).cell? ⟨w.heap.size, 5, none⟩ = some (.slice A es.length c) := cell_newest rfl rfl
 have hm := World.ownsMap_made (w.alloc (.cells #[g0, g1, g2, g3, g4, .slice A es.length c] 25)) Tryz.prog 3 R0
 have KP := he.1.len
 have Kz := keepC ((Below.refl _ _).alloc (Nat.le_refl _) (.map #[] 0)) z5
 obtain ⟨HE, KB, HM, HW, HL⟩ := hid5 he.1 Ka hm hw hl
 have T : ((w.alloc (.cells #[g0, g1, g2, g3, g4, .slice A es.length c] 25)).alloc (.map #[] 0)).heap.size = w.heap.size + 2 := by simp
 have HZ := hid T
 clear he S Ka hm hw hl z5 T
 have KA := fun W : World => run_makeMap (P := Tryz.prog) 125 W
 go_enter Tryz.func72, Tryz.ntmps72
 go_wp2
 clear Kz KA
 go_loopw [10] (fun i wr => ∃ k n D φ, k ≤ es.length ∧ i = .int .i64 (k : Int) ∧ n ≤ k ∧ Hid (wr.ownsMap Tryz.prog 3 R0 (w.heap.size + 1) n D) ∧ Hid (SaysE D (hasE es k) φ) ∧ Hid (OutsR wr w.heap.size (w.heap.size + 1) es AA CC k φ) ∧ Below w.heap.size w wr) (fun i _ => es.length - (intOf i).toNat)
 case atStart =>
  refine ⟨0, 0, _, _, Nat.zero_le _, rfl, Nat.le_refl _, hid ?_, hid (SaysE.zero' es), hid (OutsR.zero es AA CC (by rw [HZ.out]; omega)), KB.out⟩
  have h := HM.out
  rw [show (w.alloc (.cells #[g0, g1, g2, g3, g4, .slice A es.length c] 25)).heap.size = w.heap.size + 1 by simp] at h
  exact h
 case round =>
  obtain ⟨k, n, D, φ, hk, rfl, hn, s, M, E, F⟩ := hrel
  have T : w.heap.size + 1 < wr.heap.size := E.out.lt
  by_cases hlt : k < es.length
  · obtain ⟨bb, oo, rfl, KS, v, p1, p2, p3, p4, p5, p6⟩ := (HE.out.below F).at7 hlt
    rw [edC_0 hlt] at v
    rw [edC_1 hlt] at p1
    rw [edC_2 hlt] at p2
    rw [edC_3 hlt] at p3
    rw [edC_4 hlt] at p4
    rw [edC_5 hlt] at p5
    rw [edC_6 hlt] at p6
    have I := HW.out _ (List.getElem_mem hlt)
    obtain ⟨y, G⟩ := hid2 (fun (v' : Value) => (M.out.step (v' := v') hlt I)) (fun (X Y Z : World) (v' : Value) (h : OutsR X w.heap.size (w.heap.size + 1) es AA CC k φ) => h.step (W' := Y) (W'' := Z) (v' := v') hlt)
    obtain ⟨C, B⟩ : ∃ W, wr.alloc (.cells #[.int .i64 es[k].f, .int .i64 es[k].t, .int .u8 es[k].k, .int .i64 es[k].n, .int .u8 es[k].cmp, .slice (AA k) es[k].l.length (CC k), .int .i64 es[k].p] 73) = W := ⟨_, rfl⟩
    have U : C.cell? ⟨wr.heap.size, 0, none⟩ = some (.int .i64 es[k].f) := by rw [← B]; exact cell_newest rfl rfl
    have x1 : C.cell? ⟨wr.heap.size, 1, none⟩ = some (.int .i64 es[k].t) := by rw [← B]; exact cell_newest rfl rfl
    have x2 : C.cell? ⟨wr.heap.size, 2, none⟩ = some (.int .u8 es[k].k) := by rw [← B]; exact cell_newest rfl rfl
    have x3 : C.cell? ⟨wr.heap.size, 3, none⟩ = some (.int .i64 es[k].n) := by rw [← B]; exact cell_newest rfl rfl
    have x4 : C.cell? ⟨wr.heap.size, 4, none⟩ = some (.int .u8 es[k].cmp) := by rw [← B]; exact cell_newest rfl rfl
    have x5 : C.cell? ⟨wr.heap.size, 5, none⟩ = some (.slice (AA k) es[k].l.length (CC k)) := by rw [← B]; exact cell_newest rfl rfl
    have x6 : C.cell? ⟨wr.heap.size, 6, none⟩ = some (.int .i64 es[k].p) := by rw [← B]; exact cell_newest rfl rfl
    obtain ⟨N, O, K, z, KC⟩ := hid5 (B ▸ s.out.alloc (.cells #[.int .i64 es[k].f, .int .i64 es[k].t, .int .u8 es[k].k, .int .i64 es[k].n, .int .u8 es[k].cmp, .slice (AA k) es[k].l.length (CC k), .int .i64 es[k].p] 73)) (B ▸ E.out.alloc (.cells #[.int .i64 es[k].f, .int .i64 es[k].t, .int .u8 es[k].k, .int .i64 es[k].n, .int .u8 es[k].cmp, .slice (AA k) es[k].l.length (CC k), .int .i64 es[k].p] 73)) (B ▸ F.alloc (by have := F.size; omega) (.cells #[.int .i64 es[k].f, .int .i64 es[k].t, .int .u8 es[k].k, .int .i64 es[k].n, .int .u8 es[k].cmp, .slice (AA k) es[k].l.length (CC k), .int .i64 es[k].p] 73)) E.out (show wr.heap.size < C.heap.size by rw [← B]; simp)
    have V := look_e N.out.drew M.out E.out.nul I
    have j := look_e (N.out.alloc (.cells #[.int .i64 es[k].f, .int .i64 es[k].t, .int .u8 es[k].k, .int .i64 es[k].n, .int .u8 es[k].cmp, .slice (AA k) es[k].l.length (CC k), .int .i64 es[k].p] 73)).drew M.out E.out.nul I
    have Kb : edL es AA CC k = [.int .i64 es[k].f, .int .i64 es[k].t, .int .u8 es[k].k, .int .i64 es[k].n, .int .u8 es[k].cmp, .slice (AA k) es[k].l.length (CC k), .int .i64 es[k].p] := by
     rw [edL, edC_0 hlt, edC_1 hlt, edC_2 hlt, edC_3 hlt, edC_4 hlt, edC_5 hlt, edC_6 hlt]
    rw [Kb] at G
    have Kc := idxE_le es k es[k].f
    obtain ⟨KT, Kf⟩ : ∃ xs, (idxE es k es[k].f).flatMap (edL es AA CC) = xs := ⟨_, rfl⟩
    have J := O.out.own es[k].f
    rw [Kf] at G J
    obtain ⟨m0, Kg⟩ : ∃ m, (idxE es k es[k].f).length = m := ⟨_, rfl⟩
    rw [Kg] at G J Kc
    obtain ⟨Ke, KD⟩ := hid2 F (show m0 ≤ 100000000 by have := HL.out; omega)
    obtain ⟨H, Kh⟩ : ∃ q, es[k].f = q := ⟨_, rfl⟩
    obtain ⟨u0, L⟩ : ∃ u, φ H = u := ⟨_, rfl⟩
    rw [Kh] at v I y G V j J U B
    rw [L] at V j J G
    generalize es[k].t = q1 at *
    generalize es[k].k = q2 at *
    generalize es[k].n = q3 at *
    generalize es[k].cmp = q4 at *
    generalize es[k].l.length = q5 at *
    generalize es[k].p = q6 at *
    generalize AA k = A1 at *
    generalize CC k = C1 at *
    obtain ⟨Ki, Hu, KE, KF⟩ := hid4 J L (show ∀ g, u0.ownBlock = some g → w.heap.size ≤ g from fun g e => ((z.out.own H).lt g (by rw [L]; exact e)).1) (show some wr.heap.size ≠ u0.ownBlock from fun e => by have := ((z.out.own H).lt wr.heap.size (by rw [L]; exact e.symm)).2; omega)
    have Kd := keepC ((Below.refl _ _).alloc (Nat.le_refl _) (.cells #[.int .i64 H, .int .i64 q1, .int .u8 q2, .int .i64 q3, .int .u8 q4, .slice A1 q5 C1, .int .i64 q6] 73)) U
    obtain ⟨KG, Hn, KH⟩ := hid3 (show some (w.heap.size + 1) ≠ u0.ownBlock from fun e => O.out.off H (by rw [L]; exact e.symm)) (show n < maxLen by have := HL.out; simp only [maxLen]; omega) I
    clear Kb Kf Kg s M E Kc Kh L J F I
    obtain ⟨i0, hi, KI, KJ, KK⟩ := info_parts infoEd
    go_upto_region 5 with fail
    have KQ := hid B
    clear B v p1 p2 p3 p4 p5 p6
    refine Code.wp_mono (Q := fun x a wx => match x with | Exit.normal => (∃ y5 Kj Kk Kl Km Kn Ko Kp Kq Kr Ks Kt Kv Kw Kx : Value, a = { tmps := #[.agg #[g0, g1, g2, g3, g4, .slice (some ⟨bb, oo, none⟩) es.length c], .pointer (some ⟨w.heap.size, 0, none⟩), .map none, .map (some (w.heap.size + 1)), undef, y5, .map (some (w.heap.size + 1)), .pointer (some ⟨w.heap.size, 5, none⟩), .slice (some ⟨bb, oo, none⟩) es.length c, .int .i64 es.length, .int .i64 k, Kj, Kk, Kl, Km, Kn, Ko, Kp, Kq, Kr, Ks, Kt, Kv, Kw, Kx, undef], defers := [] }) ∧ ∃ R φ', Hid (wx.ownsMap Tryz.prog 3 R0 (w.heap.size + 1) (n + 1) R) ∧ Hid (SaysE R (hasE es (k + 1)) φ') ∧ Hid (OutsR wx w.heap.size (w.heap.size + 1) es AA CC (k + 1) φ') ∧ Below w.heap.size w wx | _ => False) ?_ ?_
    · intro x a wx hq
      cases x <;> try exact hq.elim
      obtain ⟨⟨y5, Kj, Kk, Kl, Km, Kn, Ko, Kp, Kq, Kr, Ks, Kt, Kv, Kw, Kx, rfl⟩, R, φ', KL, KM, KN, o⟩ := hq
      clear y G O K V j U x1 x2 x3 x4 x5 x6 Kd HW N Ki z
      go_wp2
      go_roundw
      case rel => exact ⟨k + 1, n + 1, R, φ', by omega, by go_num, by omega, KL, KM, KN, o⟩
      case measure => simp [intOf]; omega
    go_region_law (go_loud (refine step_appF rfl _ _ 23 rfl w.heap.size 73 i0 (.agg #[.int .i64 0, .int .i64 0, .int .u8 0, .int .i64 0, .int .u8 0, .slice none 0 0, .int .i64 0]) 7 72 Tryz.underlying23 hi KI KJ KK rfl (by omega) (by omega) _ _ _ rfl ((Ki.out.alloc _).drew) C.heap.size [.int .i64 H, .int .i64 q1, .int .u8 q2, .int .i64 q3, .int .u8 q4, .slice A1 q5 C1, .int .i64 q6] rfl rfl seven_news (by simp [Value.oneCell']) (by have := KD.out; omega) (by have := K.out.size; simp; omega) ?_); intro v' w1 hown' hgrow hfresh; have KR := (World.cell?_of_block (a := ⟨wr.heap.size, 0, none⟩) (hgrow.block wr.heap.size (by have := KC.out; simp; omega) KF.out)).trans Kd; obtain ⟨w2, KU, KO, Ky⟩ := ((N.out.alloc (.cells #[.int .i64 H, .int .i64 q1, .int .u8 q2, .int .i64 q3, .int .u8 q4, .slice A1 q5 C1, .int .i64 q6] 73)).drew.kept hgrow KG.out).update keyI Tryz.underlying125 Hn.out (keyI_mk KH.out) (val := v') rfl)
    all_goals
     have o := (((K.out.alloc K.out.size _).drew).grown hgrow (by have := K.out.size; simp; omega) KE.out).grown Ky (by have := K.out.size; have := hgrow.size; simp at this; omega) (fun g e => by injection e; omega)
     exact ⟨⟨_, _, _, _, _, _, _, _, _, _, _, _, _, _, _, rfl⟩, _, _, hid KO, hid (y.out v'), hid (G.out _ _ _ v' (O.out.alloc _).drew hown' hgrow hfresh Ky), o⟩
  · obtain rfl : k = es.length := by omega
    have Ke := hid F
    clear F
    go_wp2
    go_ret
    exact ⟨w.heap.size + 1, n, D, φ, rfl, by omega, hn, s.out, M.out, E.out, Ke.out⟩
def oppE (k : Int) : Int := if k = 3 then 6 else if k = 6 then 3 else if k = 4 then 5 else if k = 5 then 4 else if k = 7 then 8 else if k = 8 then 7 else 0
theorem fopposite_any {w : World} {k : Int} (h1 : 0 ≤ k) (h2 : k ≤ 8) : Calls Tryz.prog 116 #[.int .u8 k] w fun e w' => e = .returned (.int .u8 (oppE k)) ∧ w = w' := by
 have B : k = 0 ∨ k = 1 ∨ k = 2 ∨ k = 3 ∨ k = 4 ∨ k = 5 ∨ k = 6 ∨ k = 7 ∨ k = 8 := by omega
 clear h1 h2
 have C : ∀ W, (Instr.index 204 (.agg #[.int .u8 0, .int .u8 0, .int .u8 0, .int .u8 6, .int .u8 5, .int .u8 4, .int .u8 3, .int .u8 8, .int .u8 7]) (.int .u8 k)).run Tryz.prog W = .ok (.int .u8 (oppE k)) W := by
  rcases B with rfl | rfl | rfl | rfl | rfl | rfl | rfl | rfl | rfl
  all_goals
   intro W
   rfl
 clear B
 generalize oppE k = q at *
 go_enter Tryz.func116, Tryz.ntmps116
 go_wp2
 go_ret
 exact ⟨rfl, rfl⟩
def rightL (d : Nat) : List Ed → Bool
 | [e] => e.k != 6
 | [e, f] => e.k == 6 && f.k == 6 && f.cmp == oppE e.cmp && alikeL (alikeE d) e.l f.l
 | _ => false
theorem fright_any {w : World} {l : List Ed} {AA : Nat → Option Addr} {CC : Nat → Nat} (he : EdsAt w d A c l AA CC) (hc : ∀ e ∈ l, e.k = 6 → 0 ≤ e.cmp ∧ e.cmp ≤ 8) :
  Calls Tryz.prog 73 #[.slice A l.length c] w fun r w' => r = .returned (.bool (rightL d l)) ∧ Below w.heap.size w w' := by
 match l, he, hc with
 | [], he, hc =>
   show Calls Tryz.prog 73 #[.slice A 0 c] w fun r w' => r = .returned (.bool false) ∧ Below w.heap.size w w'
   have B := fun q => below_drewN' (Below.refl w.heap.size w) q
   have C := hid B
   clear he hc B
   go_enter Tryz.func73, Tryz.ntmps73
   go_wp2
   first | go_quiet (fail) | fail
   go_wp2
   go_ret
   exact ⟨rfl, C.out _⟩
 | [e], he, hc =>
   show Calls Tryz.prog 73 #[.slice A 1 c] w fun r w' => r = .returned (.bool (e.k != 6)) ∧ Below w.heap.size w w'
   obtain ⟨b, o, rfl, s, N, O, D, P, I, J, Q⟩ := he.1.at7 (j := 0) (by simp)
   rw [edC_2 (by simp)] at D
   simp only [Nat.zero_mul, Nat.add_zero, List.getElem_cons_zero] at D
   have T : ((e.k : Int) != 6) = (e.k != 6) := by
    rw [Bool.eq_iff_iff, bne_iff_ne, bne_iff_ne]
    omega
   rw [← T]
   clear he hc N O P I J Q T
   generalize e.k = k at *
   go_enter Tryz.func73, Tryz.ntmps73
   go_wp2
   go_ret
   exact ⟨rfl, Below.refl _ _⟩
 | [e, f], he, hc =>
   show Calls Tryz.prog 73 #[.slice A 2 c] w fun r w' => r = .returned (.bool (e.k == 6 && f.k == 6 && f.cmp == oppE e.cmp && alikeL (alikeE d) e.l f.l)) ∧ Below w.heap.size w w'
   obtain ⟨b, o, rfl, s, N, O, D, P, I, J, Q⟩ := he.1.at7 (j := 0) (by simp)
   obtain ⟨b', o', E, Kb, u, v, V, y, X, Y, z⟩ := he.1.at7 (j := 1) (by simp)
   injection E with E
   injection E with E e2
   subst E e2
   rw [edC_2 (by simp)] at D V
   rw [edC_4 (by simp)] at I X
   rw [edC_5 (by simp)] at J Y
   simp only [Nat.zero_mul, Nat.add_zero, List.getElem_cons_zero, List.getElem_cons_succ, Nat.one_mul] at D V I X J Y
   have F := fun W (h : Below w.heap.size w W) => fequal_any (w := W) ((he.2 0 (by simp)).below h) ((he.2 1 (by simp)).below h)
   simp only [List.getElem_cons_zero, List.getElem_cons_succ] at F
   have K := fun (h : e.k = 6) W => fopposite_any (w := W) (k := e.cmp) (hc e (by simp) h).1 (hc e (by simp) h).2
   have U : ((e.k : Int) == 6) = (e.k == 6) := by rw [Bool.eq_iff_iff, beq_iff_eq, beq_iff_eq]; omega
   have L : ((f.k : Int) == 6) = (f.k == 6) := by rw [Bool.eq_iff_iff, beq_iff_eq, beq_iff_eq]; omega
   have B := fun q => below_drewN' (Below.refl w.heap.size w) q
   obtain ⟨C, Z⟩ := hid2 B ((Below.refl w.heap.size w).drew)
   obtain ⟨R, a⟩ : ∃ R, alikeL (alikeE d) e.l f.l = R := ⟨_, rfl⟩
   obtain ⟨S, i⟩ : ∃ x, oppE e.cmp = x := ⟨_, rfl⟩
   rw [a] at F ⊢
   rw [i] at K ⊢
   obtain ⟨HQ, G⟩ := hid2 F K
   clear he hc N O P Q u v y z F K a i B
   generalize e.cmp = m0 at *
   generalize f.cmp = m1 at *
   generalize e.l.length = L0 at *
   generalize f.l.length = L1 at *
   generalize AA 0 = A0 at *
   generalize AA 1 = A1 at *
   generalize CC 0 = C0 at *
   generalize CC 1 = C1 at *
   generalize e.k = k0 at *
   generalize f.k = k1 at *
   by_cases h0 : k0 = 6
   · subst h0
     rw [beq_self_eq_true] at U ⊢
     by_cases h1 : k1 = 6
     · subst h1
       rw [beq_self_eq_true] at L ⊢
       replace G := hid (G.out rfl)
       by_cases h2 : m1 = S
       · have H : (m1 == S) = true := beq_iff_eq.2 h2
         rw [H]
         have H2 := hid h2
         clear h2
         go_enter Tryz.func73, Tryz.ntmps73
         go_wp2
         go_still_tail 44, (by kernel_rfl)
         still_call ((G.out _).mono fun e w' h => ⟨h.1, h.2.symm⟩)
         repeat still_step
         refine wpStill_nil ?_
         change wpList _ _ _ _ _ w.drew
         go_wp2_with fail
         refine (HQ.out _ Z.out).mono ?_
         rintro e w1 ⟨rfl, Ka⟩
         have m := from_ Z.out Ka
         go_wp2
         go_ret
         exact ⟨rfl, m⟩
       · have H : (m1 == S) = false := beq_eq_false_iff_ne.2 h2
         rw [H]
         clear h2
         go_enter Tryz.func73, Tryz.ntmps73
         go_wp2
         first | go_quiet ((go_at_call 116; exact Calls.quiet_of_same ((G.out _).mono fun e w' h => ⟨h.1, h.2.symm⟩))) | fail
         go_wp2
         go_ret
         exact ⟨rfl, C.out _⟩
     · have M : (k1 == 6) = false := beq_eq_false_iff_ne.2 h1
       rw [M] at L ⊢
       clear h1
       go_enter Tryz.func73, Tryz.ntmps73
       go_wp2
       first | go_quiet (fail) | fail
       go_wp2
       go_ret
       exact ⟨rfl, C.out _⟩
   · have M : (k0 == 6) = false := beq_eq_false_iff_ne.2 h0
     rw [M] at U ⊢
     clear h0
     go_enter Tryz.func73, Tryz.ntmps73
     go_wp2
     first | go_quiet (fail) | fail
     go_wp2
     go_ret
     exact ⟨rfl, C.out _⟩
 | e :: f :: g :: t, he, hc =>
   show Calls Tryz.prog 73 #[.slice A (e :: f :: g :: t).length c] w fun r w' => r = .returned (.bool false) ∧ Below w.heap.size w w'
   have hl := he.1.len
   have h3 : 3 ≤ (e :: f :: g :: t).length := by simp
   have B := fun q => below_drewN' (Below.refl w.heap.size w) q
   have C := hid B
   clear he hc B
   generalize (e :: f :: g :: t).length = n at *
   have L : ((n : Int) == 1) = false := beq_eq_false_iff_ne.2 (by omega)
   have H : ((n : Int) == 2) = false := beq_eq_false_iff_ne.2 (by omega)
   go_enter Tryz.func73, Tryz.ntmps73
   go_wp2
   first | go_quiet (fail) | fail
   go_wp2
   go_ret
   exact ⟨rfl, C.out _⟩
def edAt (es : List Ed) (j : Nat) : Ed := (es[j]?).getD ⟨0, 0, 0, 0, 0, [], 0⟩
def outsL (es : List Ed) (key : Int) : List Ed := (idxE es es.length key).map (edAt es)
theorem idxE_mem {es : List Ed} {k : Nat} (h : j ∈ idxE es k key) (hk : k ≤ es.length) : ∃ hj : j < es.length, es[j].f = key := by
 unfold idxE at h
 rw [List.mem_filter, List.mem_range] at h
 have hj : j < es.length := by omega
 refine ⟨hj, ?_⟩
 have A := of_decide_eq_true h.2
 rw [List.getElem?_eq_getElem hj] at A
 simpa using A
theorem flat7 {α β : Type} {f : α → List β} (hf : ∀ a, (f a).length = 7) : ∀ (l : List α) (j i : Nat) (hj : j < l.length), i < 7 → (l.flatMap f)[j * 7 + i]? = (f l[j])[i]?
 | [], j, i, hj, _ => absurd hj (by simp)
 | a :: l, 0, i, _, hi => by
   rw [List.flatMap_cons, Nat.zero_mul, Nat.zero_add, List.getElem?_append_left (by rw [hf]; exact hi)]
   rfl
 | a :: l, j + 1, i, hj, hi => by
   rw [List.flatMap_cons, List.getElem?_append_right (by rw [hf]; omega), hf, show (j + 1) * 7 + i - 7 = j * 7 + i by omega]
   exact flat7 hf l j i (by simpa using hj) hi
theorem edL_at (es : List Ed) (AA : Nat → Option Addr) (CC : Nat → Nat) (m i : Nat) (hi : i < 7) : (edL es AA CC m)[i]? = some (edC es AA CC m i) := by
 rcases i with _ | _ | _ | _ | _ | _ | _ | i
 all_goals first | rfl | omega
theorem OutsR.row {w : World} {c0 : Nat} {A0 : Option Addr} {es : List Ed} {AA : Nat → Option Addr} {CC : Nat → Nat} {φ : Int → Value} (h : OutsR w B b es AA CC es.length φ) (he : EdsAt w d A0 c0 es AA CC) (key : Int) :
  ∃ A c AA' CC', φ key = .slice A (outsL es key).length c ∧ EdsAt w d A c (outsL es key) AA' CC' := by
 have G : (outsL es key).length = (idxE es es.length key).length := by simp [outsL]
 have E := h.own key
 rcases E.2 with ⟨e, hn⟩ | ⟨g, cap, cur, e, _, hg, hnc, hcm, _, _⟩
 · have H : outsL es key = [] := List.eq_nil_of_length_eq_zero (by omega)
   rw [H]
   exact ⟨none, 0, fun _ => none, fun _ => 0, e, RowK.nil 7 w _, fun j hj => absurd hj (by simp)⟩
 · refine ⟨some ⟨g, 0, none⟩, cap, fun j => AA ((idxE es es.length key)[j]?.getD 0), fun j => CC ((idxE es es.length key)[j]?.getD 0), by rw [G]; exact e, ⟨by omega, by have := hcm; simp only [maxLen] at this; omega, fun _ => ⟨g, 0, rfl, (E.lt g (by rw [e]; rfl)).2, fun j hj i hi => ?_⟩⟩, fun j hj => ?_⟩
   · have C : j < (idxE es es.length key).length := by omega
     obtain ⟨D, _⟩ := idxE_mem (List.getElem_mem C) (Nat.le_refl _)
     have F := E.cells (g := g) (by rw [e]; rfl) (j * 7 + i) (edC es AA CC (idxE es es.length key)[j] i) (by rw [flat7 (fun a => edL_size es AA CC a) _ j i C hi, edL_at _ _ _ _ _ hi])
     rw [Addr.add_lit] at F
     have I : edC (outsL es key) (fun j => AA ((idxE es es.length key)[j]?.getD 0)) (fun j => CC ((idxE es es.length key)[j]?.getD 0)) j i = edC es AA CC (idxE es es.length key)[j] i := by
      unfold edC
      rw [List.getElem?_eq_getElem hj, List.getElem?_eq_getElem D]
      simp only [outsL, List.getElem_map, edAt, List.getElem?_eq_getElem D, List.getElem?_eq_getElem C, Option.getD_some]
     rw [I, ← F]
     simp
   · have C : j < (idxE es es.length key).length := by omega
     obtain ⟨D, _⟩ := idxE_mem (List.getElem_mem C) (Nat.le_refl _)
     have J := he.2 _ D
     have K : (outsL es key)[j] = es[(idxE es es.length key)[j]] := by simp [outsL, edAt, List.getElem?_eq_getElem D]
     rw [K]
     simp only [List.getElem?_eq_getElem C, Option.getD_some]
     exact J
theorem outsL_mem {es : List Ed} {e : Ed} (h : e ∈ outsL es key) : e ∈ es ∧ e.f = key := by
 unfold outsL at h
 obtain ⟨j, C, rfl⟩ := List.mem_map.1 h
 obtain ⟨A, D⟩ := idxE_mem C (Nat.le_refl _)
 have B : edAt es j = es[j] := by simp [edAt, List.getElem?_eq_getElem A]
 rw [B]
 exact ⟨List.getElem_mem A, D⟩
def skipE (es : List Ed) (key : Int) : Option Int := match outsL es key with | [e] => if e.k = 1 then some e.t else none | _ => none
def chainE (es : List Ed) (node : Int) : Nat → Int → Bool
 | 0, _ => false
 | n + 1, p => match skipE es p with | none => false | some t => t == node || chainE es node n t
structure OkG (V : Int) (na : Nat) (nodes start last : Int) (d : Nat) (es : List Ed) : Prop where
 v : 0 ≤ V ∧ V ≤ 32
 a : na ≤ 4
 n : 2 ≤ nodes ∧ nodes ≤ 4096
 m : es.length ≤ 2048
 s : 0 ≤ start ∧ start < nodes
 l : 0 ≤ last ∧ last < nodes
 sl : start ≠ last
 e : ∀ e ∈ es, edgeE V na nodes d e = true
 k : ∀ key, hasE es es.length key = true → key ≠ last ∧ rightL d (outsL es key) = true ∧ chainE es key es.length key = false
theorem edgeE_parts {na : Int} {e : Ed} (h : edgeE V na nodes d e = true) : (0 ≤ e.f ∧ e.f < nodes) ∧ (0 ≤ e.t ∧ e.t < nodes) ∧ (e.k = 6 → 0 ≤ e.cmp ∧ e.cmp ≤ 8) := by
 unfold edgeE deedE headD cmpD at h
 simp only [Bool.and_eq_true, decide_eq_true_eq] at h
 refine ⟨h.1.1, h.1.2, fun hk => ?_⟩
 have A := h.2.1.2
 rw [if_pos hk] at A
 simp only [Bool.and_eq_true, decide_eq_true_eq] at A
 omega
theorem wf_i64 {n : Int} (h : 0 ≤ n ∧ n ≤ 4096) : (Lit.int .i64 n).wf = true := by
 have A : IntKind.i64.min = -9223372036854775808 := rfl
 have B : IntKind.i64.max = 9223372036854775807 := rfl
 simp [Lit.wf, A, B]
 omega
theorem Box6.kept {g : Nat} {b c d : Value} {row : Option Nat} (h : Box6 W g a b c d e f) (hg : W.grownBy W' row) (hr : row ≠ some g) : Box6 W' g a b c d e f := by
 have A := hg.block g h.lt (Ne.symm hr)
 exact ⟨(World.cell?_of_block (a := ⟨g, 0, none⟩) A).trans h.c0, (World.cell?_of_block (a := ⟨g, 1, none⟩) A).trans h.c1, (World.cell?_of_block (a := ⟨g, 2, none⟩) A).trans h.c2, (World.cell?_of_block (a := ⟨g, 3, none⟩) A).trans h.c3, (World.cell?_of_block (a := ⟨g, 4, none⟩) A).trans h.c4, (World.cell?_of_block (a := ⟨g, 5, none⟩) A).trans h.c5,
  (World.frozen?_of_block (a := ⟨g, 0, none⟩) A).trans h.f0, (World.frozen?_of_block (a := ⟨g, 1, none⟩) A).trans h.f1, (World.frozen?_of_block (a := ⟨g, 2, none⟩) A).trans h.f2, (World.frozen?_of_block (a := ⟨g, 3, none⟩) A).trans h.f3, (World.frozen?_of_block (a := ⟨g, 4, none⟩) A).trans h.f4, (World.frozen?_of_block (a := ⟨g, 5, none⟩) A).trans h.f5, Nat.lt_of_lt_of_le h.lt hg.size⟩
theorem grown_of_below {w : World} (h : Below w.heap.size w w') : w.grownBy w' none := ⟨h.os, h.tape, h.output, h.size, fun k hk _ => h.block k hk⟩
theorem says_at {D : DataW Value} {has : Int → Bool} {φ : Int → Value} (h : SaysE D has φ) {c : Value} (hw : (Lit.int .i64 x).wf = true) (hat : ∀ zd, D.atKey (.int .i64 x) zd = .held c) : has x = true ∧ φ x = c := by
 cases hh : has x with
 | true =>
   have A := h.2 x hw .nil
   rw [hat, hh] at A
   simp at A
   exact ⟨rfl, A.symm⟩
 | false =>
   have A := h.2 x hw .nil
   rw [hat, hh] at A
   simp at A
theorem skip_step {es : List Ed} {p : Int} {m : Nat} {e : Ed} (h : chainE es x (m + 1) p = false) (he : outsL es p = [e]) (hk : e.k = 1) : (e.t == x) = false ∧ chainE es x m e.t = false := by
 unfold chainE skipE at h
 rw [he] at h
 simp only [hk, if_true, Bool.or_eq_false_iff] at h
 exact h
def SaysG (V : Int) (na : Nat) (sz : Nat → Int) (nodes : Int) (d : Nat) (es : List Ed) : Prop :=
 (0 ≤ V ∧ V ≤ 32) ∧ na ≤ 4 ∧ (∀ j, j < na → 1 ≤ sz j ∧ sz j ≤ 16) ∧ ∀ e ∈ es, edgeE V na nodes d e = true
def OkH (V : Int) (na : Nat) (sz : Nat → Int) (nodes start last : Int) (d : Nat) (es : List Ed) : Prop := OkG V na nodes start last d es ∧ (∀ j, j < na → 1 ≤ sz j ∧ sz j ≤ 16)
theorem fcheck1_any {w : World} {n : Int} : Calls Tryz.prog 68 #[.int .i64 n] w fun e w' => e = .returned (.bool (decide (n < 1) || decide (16 < n))) ∧ w = w' := by
 by_cases h : n < 1
 · rw [decide_eq_true h, Bool.true_or]
   go_enter Tryz.func68, Tryz.ntmps68
   go_wp2
   go_ret
   exact ⟨rfl, rfl⟩
 · rw [decide_eq_false h, Bool.false_or]
   by_cases h2 : 16 < n
   · rw [decide_eq_true h2]
     go_enter Tryz.func68, Tryz.ntmps68
     go_wp2
     go_ret
     exact ⟨rfl, rfl⟩
   · rw [decide_eq_false h2]
     go_enter Tryz.func68, Tryz.ntmps68
     go_wp2
     go_ret
     exact ⟨rfl, rfl⟩
theorem farrays_any {w : World} {n : Nat} {sz : Nat → Int} (ha : RowK 1 w A c n (fun j _ => .int .i64 (sz j))) : ∃ R, ((R = false → ∀ j, j < n → 1 ≤ sz j ∧ sz j ≤ 16) ∧ ((∀ j, j < n → 1 ≤ sz j ∧ sz j ≤ 16) → R = false)) ∧ ∀ W, Below w.heap.size w W → Calls Tryz.prog 67 #[.slice A n c, .func (.func 68) #[] #[]] W fun e w' => e = .returned (.bool R) ∧ Below W.heap.size W w' := by
 refine ⟨(List.range n).any fun j => decide (sz j < 1) || decide (16 < sz j), ⟨fun h j B => ?_, fun h => ?_⟩, fun W hW => scontains_int goes27 (ha.below hW) fun j B X hX => fcheck1_any.mono fun e w' h => ⟨h.1, h.2 ▸ Below.refl _ _⟩⟩
 · have C : ¬ (decide (sz j < 1) || decide (16 < sz j)) = true := fun D => absurd (any_lt.2 ⟨j, B, D⟩) (by rw [h]; simp)
   simp at C
   omega
 · cases C : (List.range n).any fun j => decide (sz j < 1) || decide (16 < sz j) with
   | false => rfl
   | true =>
     obtain ⟨j, B, e⟩ := any_lt.1 C
     have D := h j B
     rw [decide_eq_false (by omega), decide_eq_false (by omega)] at e
     cases e
theorem fcheck_odd {w : World} {L : Nat} {start last : Int} (h : V < 0 ∨ (0 ≤ V ∧ 32 < V) ∨ (0 ≤ V ∧ V ≤ 32 ∧ 4 < na) ∨ (0 ≤ V ∧ V ≤ 32 ∧ na ≤ 4 ∧ nodes < 2) ∨ (0 ≤ V ∧ V ≤ 32 ∧ na ≤ 4 ∧ 2 ≤ nodes ∧ 4096 < nodes) ∨ (0 ≤ V ∧ V ≤ 32 ∧ na ≤ 4 ∧ 2 ≤ nodes ∧ nodes ≤ 4096 ∧ 2048 < L)) :
  Calls Tryz.prog 27 #[.agg #[.int .i64 V, .slice Aa na ca, .int .i64 nodes, .int .i64 start, .int .i64 last, .slice A L c]] w fun r w' => r = .returned (.int .i64 8) ∧ Below w.heap.size w w' := by
 obtain ⟨W1, C⟩ : ∃ W, w.alloc (.cells #[.int .i64 V, .slice Aa na ca, .int .i64 nodes, .int .i64 start, .int .i64 last, .slice A L c] 25) = W := ⟨_, rfl⟩
 have B : Below w.heap.size w W1 := by rw [← C]; exact (Below.refl _ _).alloc (Nat.le_refl _) _
 have D : Box6 W1 w.heap.size (.int .i64 V) (.slice Aa na ca) (.int .i64 nodes) (.int .i64 start) (.int .i64 last) (.slice A L c) := by rw [← C]; exact Box6.new _ _ _ _ _ _ _ _
 have F := D.all
 have E := hid B
 clear B
 rcases h with h | ⟨h, h1⟩ | ⟨h, h1, h2⟩ | ⟨h, h1, h2, h3⟩ | ⟨h, h1, h2, h3, h4⟩ | ⟨h, h1, h2, h3, h4, h5⟩
 all_goals
  go_enter Tryz.func27, Tryz.ntmps27
  go_wp2
  go_ret
  exact ⟨rfl, E.out⟩
theorem fcheck_even {w : World} {start last : Int} {es : List Ed} {AA : Nat → Option Addr} {CC : Nat → Nat} {sz : Nat → Int} (hv : 0 ≤ V ∧ V ≤ 32) (hna : na ≤ 4) (hn : 2 ≤ nodes ∧ nodes ≤ 4096) (hm : es.length ≤ 2048) (he : EdsAt w d A c es AA CC) (ha : RowK 1 w Aa ca na (fun j _ => .int .i64 (sz j))) :
  Calls Tryz.prog 27 #[.agg #[.int .i64 V, .slice Aa na ca, .int .i64 nodes, .int .i64 start, .int .i64 last, .slice A es.length c]] w fun r w' => ∃ n, r = .returned (.int .i64 n) ∧ (n = 0 → SaysG V na sz nodes d es) ∧ (OkH V na sz nodes start last d es → n = 0) ∧ Below w.heap.size w w' := by
 obtain ⟨R, ⟨N, Km⟩, hA⟩ := farrays_any ha
 obtain ⟨K2, Qb⟩ := hid2 N Km
 obtain ⟨W1, Kn⟩ : ∃ W, w.alloc (.cells #[.int .i64 V, .slice Aa na ca, .int .i64 nodes, .int .i64 start, .int .i64 last, .slice A es.length c] 25) = W := ⟨_, rfl⟩
 have Kc : Below w.heap.size w W1 := by rw [← Kn]; exact (Below.refl _ _).alloc (Nat.le_refl _) _
 have Y : Box6 W1 w.heap.size (.int .i64 V) (.slice Aa na ca) (.int .i64 nodes) (.int .i64 start) (.int .i64 last) (.slice A es.length c) := by rw [← Kn]; exact Box6.new _ _ _ _ _ _ _ _
 obtain ⟨C, KH, F, G, HA, HN⟩ := hid6 Kc he Y (he.below Kc) (hA W1 Kc) hn
 have HV := hid (And.intro hv hna)
 have KS := hv.1
 have KT := hv.2
 have KU := hn.1
 have KV := hn.2
 obtain ⟨b1, Ko⟩ : ∃ b, (decide (0 ≤ start) && decide (start < nodes)) = b := ⟨_, rfl⟩
 obtain ⟨b2, Kp⟩ : ∃ b, (decide (0 ≤ last) && decide (last < nodes)) = b := ⟨_, rfl⟩
 have K : Hid (OkH V na sz nodes start last d es → b1 = true ∧ b2 = true ∧ start ≠ last ∧ R = false) := hid fun h => ⟨by rw [← Ko, decide_eq_true h.1.s.1, decide_eq_true h.1.s.2]; rfl, by rw [← Kp, decide_eq_true h.1.l.1, decide_eq_true h.1.l.2]; rfl, h.1.sl, Km h.2⟩
 obtain ⟨H1, H2⟩ := hid2 (fun W : World => Ko ▸ fbelow_any (w := W) start nodes) (fun W : World => Kp ▸ fbelow_any (w := W) last nodes)
 have z0 := Y.all
 clear Kc he hA hv hn ha N Km Ko Kp
 go_enter Tryz.func27, Tryz.ntmps27
 go_wp2_with fail
 refine (H1.out _).mono ?_
 rintro e w2 ⟨rfl, rfl⟩
 cases b1
 · go_wp2
   go_ret
   exact ⟨8, rfl, (fun h => absurd h (by decide)), (fun h => by have E := K.out h; simp at E), C.out⟩
 go_wp2_with fail
 refine (H2.out _).mono ?_
 rintro e w2 ⟨rfl, rfl⟩
 cases b2
 · go_wp2
   go_ret
   exact ⟨8, rfl, (fun h => absurd h (by decide)), (fun h => by have E := K.out h; simp at E), C.out⟩
 by_cases hsl : start = last
 · have t1 : (start == last) = true := beq_iff_eq.2 hsl
   have KW := hid hsl
   clear hsl
   go_wp2
   go_ret
   exact ⟨8, rfl, (fun h => absurd h (by decide)), (fun h => absurd KW.out (K.out h).2.2.1), C.out⟩
 have t1 : (start == last) = false := beq_eq_false_iff_ne.2 hsl
 clear hsl
 go_wp2_with fail
 refine HA.out.mono ?_
 rintro e w2 ⟨rfl, B⟩
 cases R
 case true =>
  have H := from_ C.out B
  clear B
  go_wp2
  go_ret
  exact ⟨8, rfl, (fun h => absurd h (by decide)), (fun h => by have E := K.out h; simp at E), H⟩
 replace C := hid (from_ C.out B)
 replace G := hid (G.out.below B)
 replace F := hid (F.out.below B)
 have Ki := fedges_any G.out F.out
 obtain ⟨RE, Kq⟩ : ∃ R, es.all (edgeE V na nodes d) = R := ⟨_, rfl⟩
 rw [Kq] at Ki
 obtain ⟨KI, KJ⟩ := hid2 Kq Ki
 obtain ⟨J, O, P, Q, S, T, _, _, _, _, _, _, _⟩ := id F.out
 clear Kn z0 H1 H2 HA B Kq Ki
 go_wp2_with fail
 refine KJ.out.mono ?_
 rintro e w3 ⟨rfl, B⟩
 clear t1 KS KT KU KV hna
 cases RE
 case false =>
  have H := from_ C.out B
  clear B
  go_wp2
  go_ret
  exact ⟨8, rfl, (fun h => absurd h (by decide)), (fun h => by have E := List.all_eq_true.2 h.1.e; have h8 := KI.out; rw [E] at h8; simp at h8), H⟩
 have Z : Hid (SaysG V na sz nodes d es) := hid ⟨HV.out.1, HV.out.2, K2.out (by first | rfl | trivial), fun e he => List.all_eq_true.1 (by have h := KI.out; first | exact h | simpa using h) e he⟩
 replace C := hid (from_ C.out B)
 replace G := hid (G.out.below B)
 replace F := hid (F.out.below B)
 have Kv := fouts_any (w := w3) (g0 := .int .i64 V) (g1 := .slice Aa na ca) (g2 := .int .i64 nodes) (g3 := .int .i64 start) (g4 := .int .i64 last) G.out (by omega) (fun e he => by
  have h := (edgeE_parts (Z.out.2.2.2 e he)).1
  have h2 := HN.out.2
  exact wf_i64 ⟨h.1, by omega⟩)
 have Kw := hid Kv
 clear J O P Q S T B Kv KJ
 obtain ⟨J, O, P, Q, S, T, _, _, _, _, _, _, _⟩ := id F.out
 go_wp2_with fail
 refine Kw.out.mono ?_
 rintro e w4 ⟨b, n, D, φ, rfl, H, hn, hM, hS, o, B⟩
 replace C := hid (from_ C.out B)
 replace G := hid (G.out.below B)
 replace F := hid (F.out.below B)
 obtain ⟨HM, HS, HO, Hb⟩ := hid4 hM hS o H
 clear J O P Q S T B Kw hM hS o H
 go_wp2_with (first | (at_range; refine wpList_range_own _ rfl _ 125 rfl 3 23 keyI Tryz.underlying125 R0 b n D rfl HM.out ?_; intro w5 hrg5 hg5 hs5) | fail)
 go_frame
 obtain ⟨r, hr⟩ : ∃ r, w4.heap.size = r := ⟨_, rfl⟩
 have Kx : ∀ key, (φ key).ownBlock ≠ some r := fun key e => by have := ((HO.out.own key).lt r e).2; omega
 have Ky : w.heap.size ≠ r := by have := F.out.lt; omega
 have Kz := HO.out.kept hg5 fun key => by
  cases (φ key).ownBlock with
  | none => exact .inl rfl
  | some g => exact .inr (by simp)
 have KA := F.out.kept hg5 (by simp)
 have KB : Below w.heap.size w w5 := C.out.grown hg5 C.out.size (by simp)
 have KC : w.heap.size ≤ r := by have := C.out.size; omega
 rw [hr] at hrg5
 obtain ⟨K3, K4, K5, K6, K7, K8⟩ := hid6 hrg5 Kz KA KB Kx Ky
 have KX := hid KC
 have KD : ∀ key kl, keyOf Tryz.prog 3 key = some kl → ∃ x, key = Value.int .i64 x := fun key kl h => by
  obtain ⟨x, rfl, _⟩ := Maps.keyOf_int_inv Tryz.underlying3 h
  exact ⟨x, rfl⟩
 have K := hid KD
 simp only [hr]
 clear hr hg5 hs5 Kx Ky Kz KA KB KC hrg5 KD G C F HM HO
 go_loopw [] (fun wr => ∃ left Kr, Hid (wr.ranges Tryz.prog 3 R0 b r n D left Kr) ∧ Hid (OutsR wr w3.heap.size b es AA CC es.length φ) ∧ Hid (Box6 wr w.heap.size (.int .i64 V) (.slice Aa na ca) (.int .i64 nodes) (.int .i64 start) (.int .i64 last) (.slice A es.length c)) ∧ Below w.heap.size w wr) (fun wr => wr.rangeLeft b r)
 case atStart => exact ⟨_, _, K3, K4, K5, K6.out⟩
 case round =>
  obtain ⟨left, Kr, N, o, Y, Kf⟩ := hrel
  go_wp2_with (first | (at_next; refine wpList_next_ranges _ rfl _ rfl 3 keyI R0 (Value.int .i64) (fun v => v) K.out (fun v y _ => ⟨v, rfl⟩) b r n D left Kr rfl N.out ?_ ?_) | fail)
  · intro hc0 hl0
    go_wp2
    go_ret
    exact ⟨_, rfl, (fun _ => Z.out), (fun _ => rfl), Kf⟩
  · intro x cv kl y ps w6 cnt6 hkl hlk hy hat hrg6 hlt6 hg6 hs6 hen
    obtain ⟨x', ex, rfl, KK⟩ := Maps.keyOf_int_inv Tryz.underlying3 hkl
    injection ex with _ ex
    subst ex
    have KY : y = .held cv := by
     simp only [R0, Option.some.injEq, Prod.mk.injEq] at hy
     exact hy.1.symm
    subst KY
    obtain ⟨u, KL⟩ := says_at HS.out KK hat
    have Kj : Below w.heap.size w w6 := Kf.grown hg6 Kf.size (fun g e => by injection e with e; have := KX.out; omega)
    have Kk := o.out.kept hg6 (fun key => .inr (K7.out key))
    have KE := Y.out.kept hg6 (by have := K8.out; simp; omega)
    obtain ⟨A6, c6, Qc, Qd, e6, KM⟩ := Kk.row (KH.out.below Kj) x
    rw [← KL, e6] at hen
    have Kl := fright_any (w := w6) KM (fun e he => (edgeE_parts (Z.out.2.2.2 e (outsL_mem he).1)).2.2)
    obtain ⟨RT, Ks⟩ : ∃ R, rightL d (outsL es x) = R := ⟨_, rfl⟩
    rw [Ks] at Kl
    have HQ : Hid (OkH V na sz nodes start last d es → x ≠ last ∧ RT = true ∧ chainE es x es.length x = false) := hid fun h => ⟨(h.1.k x u).1, by rw [← Ks]; exact (h.1.k x u).2.1, (h.1.k x u).2.2⟩
    obtain ⟨KN, KO, KP, KQ, Kg, Kt⟩ := hid6 Kl hrg6 Kk KE Kj (And.intro hlt6 N.out.left_eq)
    have KF : 0 ≤ x ∧ x ≤ 4096 := by
     obtain ⟨j, hj⟩ : ∃ j, j ∈ idxE es es.length x := by
      have h0 := of_decide_eq_true u
      exact ⟨_, List.getElem_mem (n := 0) h0⟩
     obtain ⟨hm, hf⟩ := idxE_mem hj (Nat.le_refl _)
     have I := (edgeE_parts (Z.out.2.2.2 _ (List.getElem_mem hm))).1
     have h2 := HN.out.2
     rw [hf] at I
     exact ⟨I.1, by omega⟩
    have HX := hid KF
    obtain ⟨J, O, P, Q, S, T, _, _, _, _, _, _, _⟩ := KE
    subst KL
    rw [e6]
    clear hkl hlk hy hat hlt6 hg6 hs6 KK u Ks Kj Kk KM Kl hrg6 KF N o Y Kf e6
    generalize (outsL es x).length = L6 at *
    by_cases k1 : x = last
    · have t1 : (x == last) = true := beq_iff_eq.2 k1
      have KZ := hid k1
      clear k1
      go_wp2
      go_ret
      exact ⟨8, rfl, (fun h => absurd h (by decide)), (fun h => absurd KZ.out (HQ.out h).1), Kg.out⟩
    have t1 : (x == last) = false := beq_eq_false_iff_ne.2 k1
    clear k1
    go_wp2_with fail
    refine KN.out.mono ?_
    rintro e w7 ⟨rfl, B⟩
    cases RT
    case false =>
     have H := from_ Kg.out B
     clear B J O P Q S T
     go_wp2
     go_ret
     exact ⟨8, rfl, (fun h => absurd h (by decide)), (fun h => by have E := (HQ.out h).2.1; simp at E), H⟩
    have Kd := grown_of_below B
    have L := hid (KO.out.kept Kd (by simp) (by simp))
    have M := hid (KP.out.kept Kd fun key => by
     cases (φ key).ownBlock with
     | none => exact .inl rfl
     | some g => exact .inr (by simp))
    obtain ⟨z, U⟩ := hid2 (KQ.out.kept Kd (by simp)) (from_ Kg.out B)
    have Ke : Hid (w7.rangeLeft b r < wr.rangeLeft b r) := hid (by rw [L.out.left_eq, Kt.out.2]; exact Kt.out.1)
    have K0 := hid L.out.owns
    clear J O P Q S T B Kd KN KO KP KQ Kg Kt hen
    have J := z.out.all
    go_wp2_with fail
    go_loopw [7, 94] (fun s7 i wz => ∃ (k : Nat) (p : Int), k ≤ es.length ∧ i = .int .i64 (k : Int) ∧ s7 = .int .i64 p ∧ Hid (0 ≤ p ∧ p ≤ 4096) ∧ Hid (OkH V na sz nodes start last d es → chainE es x (es.length - k) p = false) ∧ wz = w7) (fun s7 i _ => es.length - (intOf i).toNat)
    case atStart => exact ⟨0, x, Nat.zero_le _, rfl, rfl, HX, hid (fun h => (HQ.out h).2.2), rfl⟩
    case round =>
     obtain ⟨k, p, hk, rfl, rfl, hp, Kh, rfl⟩ := hrel
     by_cases hlt : k < es.length
     · have a := look_e K0.out HS.out M.out.nul (wf_i64 hp.out)
       obtain ⟨m, KR⟩ : ∃ m, es.length - k = m + 1 := ⟨es.length - k - 1, by omega⟩
       have KG : es.length - (k + 1) = m := by omega
       rw [KR] at Kh
       have K1 := hid KG
       obtain ⟨A7, c7, Qe, Qf, e7, X⟩ := M.out.row (KH.out.below U.out) p
       rw [e7] at a
       obtain ⟨Ka, Kb⟩ := hid2 (fun h e he hk => skip_step (e := e) (Kh.out h) he hk) (fun e (he : e ∈ outsL es p) => (edgeE_parts (Z.out.2.2.2 e (outsL_mem he).1)).2.1)
       clear KR KG Kh e7
       generalize outsL es p = l at *
       rcases l with _ | ⟨e, _ | ⟨f, t⟩⟩
       · clear X Ka Kb
         have t0 : (((0 : Nat) : Int) == 1) = false := rfl
         replace a : (Instr.lookup 125 (.map (some b)) (.int .i64 p) false).run Tryz.prog wr = .ok (.slice A7 0 c7) wr := a
         go_wp2
         go_roundw
         case rel => exact ⟨_, cnt6, L, M, z, U.out⟩
         case measure => exact Ke.out
       · obtain ⟨b7, o7, rfl, Qg, p0, p1, p2, _, _, _, _⟩ := X.1.at7 (j := 0) (by simp)
         rw [edC_1 (by simp)] at p1
         rw [edC_2 (by simp)] at p2
         simp only [Nat.zero_mul, Nat.add_zero, List.getElem_cons_zero] at p1 p2
         replace a : (Instr.lookup 125 (.map (some b)) (.int .i64 p) false).run Tryz.prog wr = .ok (.slice (some ⟨b7, o7, none⟩) 1 c7) wr := a
         by_cases I : e.k = 1
         · have Q2 := hid (fun h => Ka.out h e rfl I)
           obtain ⟨Q3, K9⟩ := hid2 (Kb.out e (by simp)) HN.out.2
           rw [I] at p2
           clear X Ka Kb p0 I
           generalize e.t = q at *
           by_cases hq : q = x
           · have q1 : (q == x) = true := beq_iff_eq.2 hq
             clear hq
             go_wp2
             go_ret
             exact ⟨8, rfl, (fun h => absurd h (by decide)), (fun h => by have E := (Q2.out h).1; rw [q1] at E; cases E), U.out⟩
           have q1 : (q == x) = false := beq_eq_false_iff_ne.2 hq
           clear hq
           go_wp2
           go_roundw
           case rel => exact ⟨k + 1, q, by omega, by go_num, by first | rfl | trivial, hid ⟨Q3.out.1, by have := Q3.out.2; have := K9.out; omega⟩, hid (by rw [K1.out]; exact fun h => (Q2.out h).2), by first | rfl | trivial⟩
           case measure => simp [intOf]; omega
         · have t0 : ((e.k : Int) == 1) = false := beq_eq_false_iff_ne.2 (by omega)
           clear X Ka Kb p0 I
           go_wp2
           go_roundw
           case rel => exact ⟨_, cnt6, L, M, z, U.out⟩
           case measure => exact Ke.out
       · have Qa := X.1.len
         have h2 : 2 ≤ (e :: f :: t).length := by simp
         clear X Ka Kb
         generalize (e :: f :: t).length = n7 at *
         have t0 : ((n7 : Int) == 1) = false := beq_eq_false_iff_ne.2 (by omega)
         go_wp2
         go_roundw
         case rel => exact ⟨_, cnt6, L, M, z, U.out⟩
         case measure => exact Ke.out
     · obtain rfl : k = es.length := by omega
       clear Kh
       go_wp2
       go_roundw
       case rel => exact ⟨_, cnt6, L, M, z, U.out⟩
       case measure => exact Ke.out
theorem fcheck_any {w : World} {start last : Int} {es : List Ed} {AA : Nat → Option Addr} {CC : Nat → Nat} {sz : Nat → Int} (he : EdsAt w d A c es AA CC) (ha : RowK 1 w Aa ca na (fun j _ => .int .i64 (sz j))) :
  Calls Tryz.prog 27 #[.agg #[.int .i64 V, .slice Aa na ca, .int .i64 nodes, .int .i64 start, .int .i64 last, .slice A es.length c]] w fun r w' => ∃ n, r = .returned (.int .i64 n) ∧ (n = 0 → SaysG V na sz nodes d es) ∧ (OkH V na sz nodes start last d es → n = 0) ∧ Below w.heap.size w w' := by
 by_cases h : (0 ≤ V ∧ V ≤ 32) ∧ na ≤ 4 ∧ (2 ≤ nodes ∧ nodes ≤ 4096) ∧ es.length ≤ 2048
 · exact fcheck_even h.1 h.2.1 h.2.2.1 h.2.2.2 he ha
 · refine (fcheck_odd (by omega)).mono ?_
   rintro e w' ⟨rfl, B⟩
   exact ⟨8, rfl, fun h => absurd h (by decide), fun h9 => absurd ⟨h9.1.v, h9.1.a, h9.1.n, h9.1.m⟩ h, B⟩
end Go.Proofs.YtdncgncijbnjpaaGreat
