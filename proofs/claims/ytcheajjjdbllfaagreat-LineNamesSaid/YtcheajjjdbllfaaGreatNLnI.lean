/- flow.Check of graphs that may be: it says so. Conditions: the graph may be. -/
import Derived.Maps.RangeWalk
import Derived.Maps.Views
import Derived.Deep.CutRange
import Derived.StillTailTactics
import Derived.Test.YtcheajjjdbllfaaGreatNWhV
import Derived.Test.YtcheajjjdbllfaaGreatNLnE
set_option linter.unusedVariables false
set_option linter.unusedSimpArgs false
set_option maxRecDepth 100000
set_option maxHeartbeats 40000000
namespace Go.Proofs.YtcheajjjdbllfaaGreat
open Go.Lib (hid)
open Go.RowKit
variable {A : Option Addr} {B b d j : Nat} {V key nodes x : Int} {W W' w w' : World} {a c e f v' : Value}
def R0 (v : Value) : Option (DataW Value × List MemPlace) := some (.held v, [])
theorem keyI : Go.Maps.Keyed Tryz.prog 3 := Go.Maps.int_keyed Tryz.underlying3
theorem keyI_mk (hw : (Lit.int .i64 key).wf = true) : keyOf Tryz.prog 3 (.int .i64 key) = some (.int .i64 key) := Go.Maps.keyOf_int_mk Tryz.underlying3 hw
def SaysE (D : DataW Value) (has : Int → Bool) (φ : Int → Value) : Prop := Go.Maps.IsMap D ∧ ∀ key, (Lit.int .i64 key).wf = true → ∀ zd, D.atKey (.int .i64 key) zd = bif has key then .held (φ key) else zd
theorem zeroEs (w : World) : (zeroValue 43).run Tryz.prog w = .ok (.slice none 0 0) w := by
 go_simp
theorem look_e {n : Nat} {D : DataW Value} {has : Int → Bool} {φ : Int → Value} (h : w.ownsMap Tryz.prog 3 R0 b n D) (hs : SaysE D has φ) (hn : ∀ key, has key = false → φ key = .slice none 0 0) (hw : (Lit.int .i64 key).wf = true) :
  (Instr.lookup 86 (.map (some b)) (.int .i64 key) false).run Tryz.prog w = .ok (φ key) w := by
 obtain ⟨v, ps, hrun, hv⟩ := h.lookup keyI Tryz.underlying86 (zeroEs w) (zd := .held (.slice none 0 0)) (zp := []) rfl (keyI_mk hw)
 rw [hs.2 key hw] at hv
 simp only [R0, Option.some.injEq, Prod.mk.injEq] at hv
 cases hh : has key with
 | true =>
   rw [hh] at hv
   have : v = φ key := by have := hv.1; simpa using this
   rw [← this]
   exact hrun
 | false =>
   rw [hh] at hv
   have : v = .slice none 0 0 := by have := hv.1; simpa using this
   rw [hn key hh, ← this]
   exact hrun
def idxE (es : List Ed) (k : Nat) (key : Int) : List Nat := (List.range k).filter fun j => decide ((es[j]?).map (·.f) = some key)
theorem idxE_succ {es : List Ed} {k : Nat} (hk : k < es.length) (key : Int) : idxE es (k + 1) key = if es[k].f = key then idxE es k key ++ [k] else idxE es k key := by
 unfold idxE
 rw [List.range_succ, List.filter_append]
 by_cases h : es[k].f = key
 · rw [if_pos h]
   simp [List.getElem?_eq_getElem hk, h]
 · rw [if_neg h]
   simp [List.getElem?_eq_getElem hk, h]
theorem idxE_le (es : List Ed) (k : Nat) (key : Int) : (idxE es k key).length ≤ k := by
 unfold idxE
 exact Nat.le_trans (List.length_filter_le _ _) (by simp)
def edL (es : List Ed) (AA : Nat → Option Addr) (CC : Nat → Nat) (j : Nat) : List Value := [edC es AA CC j 0, edC es AA CC j 1, edC es AA CC j 2, edC es AA CC j 3, edC es AA CC j 4, edC es AA CC j 5, edC es AA CC j 6]
def hasE (es : List Ed) (k : Nat) (key : Int) : Bool := decide (0 < (idxE es k key).length)
structure OutsR (w : World) (B b : Nat) (es : List Ed) (AA : Nat → Option Addr) (CC : Nat → Nat) (k : Nat) (φ : Int → Value) : Prop where
 own : ∀ key, w.ownsRow B 60 7 (φ key) (idxE es k key).length ((idxE es k key).flatMap (edL es AA CC))
 apart : ∀ k1 k2, k1 ≠ k2 → ∀ g, (φ k1).ownBlock = some g → (φ k2).ownBlock ≠ some g
 off : ∀ key, (φ key).ownBlock ≠ some b
 lt : b < w.heap.size
 nul : ∀ key, hasE es k key = false → φ key = .slice none 0 0
theorem OutsR.zero (es : List Ed) (AA : Nat → Option Addr) (CC : Nat → Nat) (h : b < w.heap.size) : OutsR w B b es AA CC 0 fun _ => .slice none 0 0 :=
 ⟨fun key => World.ownsRow_nil _ _ _ _, fun _ _ _ g h => by simp [Value.ownBlock] at h, fun _ => by simp [Value.ownBlock], h, fun _ _ => rfl⟩
theorem OutsR.kept {es : List Ed} {AA : Nat → Option Addr} {CC : Nat → Nat} {k : Nat} {φ : Int → Value} {row : Option Nat} (h : OutsR w B b es AA CC k φ) (hg : w.grownBy w' row) (hr : ∀ key, (φ key).ownBlock = none ∨ (φ key).ownBlock ≠ row) : OutsR w' B b es AA CC k φ :=
 ⟨fun key => (h.own key).kept hg (hr key), h.apart, h.off, Nat.lt_of_lt_of_le h.lt hg.size, h.nul⟩
theorem OutsR.alloc {es : List Ed} {AA : Nat → Option Addr} {CC : Nat → Nat} {k : Nat} {φ : Int → Value} (h : OutsR w B b es AA CC k φ) (o : Obj) : OutsR (w.alloc o) B b es AA CC k φ :=
 h.kept (World.grownBy_alloc w o none) fun key => by
  cases (φ key).ownBlock with
  | none => exact .inl rfl
  | some g => exact .inr (by simp)
theorem OutsR.drew {es : List Ed} {AA : Nat → Option Addr} {CC : Nat → Nat} {k : Nat} {φ : Int → Value} (h : OutsR w B b es AA CC k φ) : OutsR w.drew B b es AA CC k φ :=
 ⟨h.own, h.apart, h.off, h.lt, h.nul⟩
theorem edL_size (es : List Ed) (AA : Nat → Option Addr) (CC : Nat → Nat) (j : Nat) : (edL es AA CC j).length = 7 := rfl
theorem OutsR.step {W'' : World} {es : List Ed} {AA : Nat → Option Addr} {CC : Nat → Nat} {k : Nat} {φ : Int → Value} (h : OutsR W B b es AA CC k φ) (hk : k < es.length)
  (hown : W'.ownsRow B 60 7 v' ((idxE es k es[k].f).length + 1) ((idxE es k es[k].f).flatMap (edL es AA CC) ++ edL es AA CC k)) (hg : W.grownBy W' (φ es[k].f).ownBlock) (hf : Fresh W (φ es[k].f) v') (hg2 : W'.grownBy W'' (some b)) :
  OutsR W'' B b es AA CC (k + 1) fun key => if key = es[k].f then v' else φ key := by
 have hv : ∀ key, key ≠ es[k].f → ∀ g, v'.ownBlock = some g → (φ key).ownBlock ≠ some g := by
  intro key hne g hg1 hg2
  rcases hf with e | e
  · rw [e] at hg1
    exact h.apart _ _ (Ne.symm hne) g hg1 hg2
  · have h1 := e g hg1
    have h2 := ((h.own key).lt g hg2).2
    omega
 have hvb : v'.ownBlock ≠ some b := by
  intro e1
  rcases hf with e | e
  · rw [e] at e1
    exact h.off _ e1
  · have h1 := e b e1
    have h2 := h.lt
    omega
 have hno : ∀ v : Value, v.ownBlock ≠ some b → v.ownBlock = none ∨ v.ownBlock ≠ some b := fun v h => .inr h
 refine ⟨fun key => ?_, ?_, ?_, Nat.lt_of_lt_of_le h.lt (Nat.le_trans hg.size hg2.size), ?_⟩
 · rw [idxE_succ hk]
   by_cases he : key = es[k].f
   · subst he
     rw [if_pos rfl, if_pos rfl, List.length_append, List.flatMap_append, List.flatMap_singleton]
     exact hown.kept hg2 (.inr hvb)
   · rw [if_neg he, if_neg (Ne.symm he)]
     refine ((h.own key).kept hg ?_).kept hg2 (.inr (h.off key))
     cases hb : (φ key).ownBlock with
     | none => exact .inl rfl
     | some g => exact .inr fun e => h.apart _ _ he g hb e.symm
 · intro k1 k2 hne g h1
   by_cases e1 : k1 = es[k].f
   · rw [if_pos e1] at h1
     rw [if_neg (fun e => hne (e1.trans e.symm))]
     exact hv k2 (fun e => hne (e1.trans e.symm)) g h1
   · rw [if_neg e1] at h1
     by_cases e2 : k2 = es[k].f
     · rw [if_pos e2]
       exact fun e => hv k1 e1 g e h1
     · rw [if_neg e2]
       exact h.apart k1 k2 hne g h1
 · intro key
   by_cases e1 : key = es[k].f
   · rw [if_pos e1]; exact hvb
   · rw [if_neg e1]; exact h.off key
 · intro key hh
   unfold hasE at hh
   rw [idxE_succ hk] at hh
   by_cases e1 : key = es[k].f
   · rw [if_pos e1.symm] at hh
     simp at hh
   · rw [if_neg e1]
     rw [if_neg (Ne.symm e1)] at hh
     exact h.nul key hh
theorem SaysE.zero : SaysE (.map []) (hasE [] 0) fun _ => .slice none 0 0 := ⟨⟨_, rfl⟩, fun _ _ _ => rfl⟩
theorem SaysE.zero' (es : List Ed) : SaysE (.map []) (hasE es 0) fun _ => .slice none 0 0 := ⟨⟨_, rfl⟩, fun _ _ _ => rfl⟩
theorem SaysE.step {D : DataW Value} {es : List Ed} {k : Nat} {φ : Int → Value} (h : SaysE D (hasE es k) φ) (hk : k < es.length) (hw : (Lit.int .i64 es[k].f).wf = true) :
  SaysE (D.put (.int .i64 es[k].f) (.held v')) (hasE es (k + 1)) fun key => if key = es[k].f then v' else φ key := by
 have hkey := keyI.key (keyI_mk hw)
 refine ⟨Go.Maps.IsMap.put h.1 _ _, fun key hw' zd => ?_⟩
 unfold hasE
 rw [idxE_succ hk]
 by_cases e1 : key = es[k].f
 · subst e1
   rw [if_pos rfl, Go.Maps.atKey_put_same h.1 hkey]
   simp
 · have e2 : ¬ es[k].f = key := Ne.symm e1
   rw [Go.Maps.atKey_put_other (fun e => e1 (by injection e)), h.2 key hw' zd]
   simp [hasE, e1, e2]
theorem edC_0 {l : List Ed} {AA : Nat → Option Addr} {CC : Nat → Nat} (hj : j < l.length) : edC l AA CC j 0 = .int .i64 l[j].f := by simp [edC, List.getElem?_eq_getElem hj]
theorem edC_1 {l : List Ed} {AA : Nat → Option Addr} {CC : Nat → Nat} (hj : j < l.length) : edC l AA CC j 1 = .int .i64 l[j].t := by simp [edC, List.getElem?_eq_getElem hj]
theorem edC_2 {l : List Ed} {AA : Nat → Option Addr} {CC : Nat → Nat} (hj : j < l.length) : edC l AA CC j 2 = .int .u8 l[j].k := by simp [edC, List.getElem?_eq_getElem hj]
theorem edC_3 {l : List Ed} {AA : Nat → Option Addr} {CC : Nat → Nat} (hj : j < l.length) : edC l AA CC j 3 = .int .i64 l[j].n := by simp [edC, List.getElem?_eq_getElem hj]
theorem edC_4 {l : List Ed} {AA : Nat → Option Addr} {CC : Nat → Nat} (hj : j < l.length) : edC l AA CC j 4 = .int .u8 l[j].cmp := by simp [edC, List.getElem?_eq_getElem hj]
theorem edC_5 {l : List Ed} {AA : Nat → Option Addr} {CC : Nat → Nat} (hj : j < l.length) : edC l AA CC j 5 = .slice (AA j) l[j].l.length (CC j) := by simp [edC, List.getElem?_eq_getElem hj]
theorem edC_6 {l : List Ed} {AA : Nat → Option Addr} {CC : Nat → Nat} (hj : j < l.length) : edC l AA CC j 6 = .int .i64 l[j].p := by simp [edC, List.getElem?_eq_getElem hj]
theorem infoEd : (Tryz.prog.info? 60).map (fun i => (i.zero, i.size, i.bytes)) = some (some (.agg #[.int .i64 0, .int .i64 0, .int .u8 0, .int .i64 0, .int .u8 0, .slice none 0 0, .int .i64 0]), 7, 72) := by kernel_rfl
theorem seven_news {b d g : Value} {t : TypeId} : ∀ j u, [a, b, c, d, e, f, g][j]? = some u → (W.alloc (.cells #[a, b, c, d, e, f, g] t)).cell? ⟨W.heap.size, j, none⟩ = some u := by
 intro j u h
 rcases j with _ | _ | _ | _ | _ | _ | _ | j
 all_goals
  simp at h
  try (subst h; exact cell_newest rfl rfl)
theorem fouts_any {c : Nat} {g0 g1 g2 g3 g4 : Value} {es : List Ed} {AA : Nat → Option Addr} {CC : Nat → Nat} (he : EdsAt w d A c es AA CC) (hl : es.length ≤ 100000000) (hw : ∀ e ∈ es, (Lit.int .i64 e.f).wf = true) :
  Calls Tryz.prog 31 #[.agg #[g0, g1, g2, g3, g4, .slice A es.length c]] w fun r w' => ∃ b n D φ, r = .returned (.map (some b)) ∧ w.heap.size ≤ b ∧ n ≤ es.length ∧ w'.ownsMap Tryz.prog 3 R0 b n D ∧ SaysE D (hasE es es.length) φ ∧ OutsR w' w.heap.size b es AA CC es.length φ ∧ Below w.heap.size w w' := by
 have hB1 : Below w.heap.size w (w.alloc (.cells #[g0, g1, g2, g3, g4, .slice A es.length c] 45)) := (Below.refl _ _).alloc (Nat.le_refl _) _
 have hB2 := hB1.alloc hB1.size (.map #[] 0)
 have z5 : (w.alloc (.cells #[g0, g1, g2, g3, g4, .slice A es.length c] 45)).cell? ⟨w.heap.size, 5, none⟩ = some (.slice A es.length c) := cell_newest rfl rfl
 have hm := World.ownsMap_made (w.alloc (.cells #[g0, g1, g2, g3, g4, .slice A es.length c] 45)) Tryz.prog 3 R0
 have hlen := he.1.len
 have z5' := keepC ((Below.refl _ _).alloc (Nat.le_refl _) (.map #[] 0)) z5
 obtain ⟨HE, HB2, HM, HW, HL⟩ := hid5 he.1 hB2 hm hw hl
 have hsz : ((w.alloc (.cells #[g0, g1, g2, g3, g4, .slice A es.length c] 45)).alloc (.map #[] 0)).heap.size = w.heap.size + 2 := by simp
 have HZ := hid hsz
 clear he hB1 hB2 hm hw hl z5 hsz
 have hmk := fun W : World => run_makeMap (P := Tryz.prog) 86 W
 go_enter Tryz.func31, Tryz.ntmps31
 go_wp2
 clear z5' hmk
 go_loopw [10] (fun i wr => ∃ k n D φ, k ≤ es.length ∧ i = .int .i64 (k : Int) ∧ n ≤ k ∧ Hid (wr.ownsMap Tryz.prog 3 R0 (w.heap.size + 1) n D) ∧ Hid (SaysE D (hasE es k) φ) ∧ Hid (OutsR wr w.heap.size (w.heap.size + 1) es AA CC k φ) ∧ Below w.heap.size w wr) (fun i _ => es.length - (intOf i).toNat)
 case atStart =>
  refine ⟨0, 0, _, _, Nat.zero_le _, rfl, Nat.le_refl _, hid ?_, hid (SaysE.zero' es), hid (OutsR.zero es AA CC (by rw [HZ.out]; omega)), HB2.out⟩
  have h := HM.out
  rw [show (w.alloc (.cells #[g0, g1, g2, g3, g4, .slice A es.length c] 45)).heap.size = w.heap.size + 1 by simp] at h
  exact h
 case round =>
  obtain ⟨k, n, D, φ, hk, rfl, hn, hM, hS, hO, hbel⟩ := hrel
  have hsz : w.heap.size + 1 < wr.heap.size := hO.out.lt
  by_cases hlt : k < es.length
  · obtain ⟨bb, oo, rfl, hbb, p0, p1, p2, p3, p4, p5, p6⟩ := (HE.out.below hbel).at7 hlt
    rw [edC_0 hlt] at p0
    rw [edC_1 hlt] at p1
    rw [edC_2 hlt] at p2
    rw [edC_3 hlt] at p3
    rw [edC_4 hlt] at p4
    rw [edC_5 hlt] at p5
    rw [edC_6 hlt] at p6
    have hwf := HW.out _ (List.getElem_mem hlt)
    obtain ⟨hST, hOS⟩ := hid2 (fun (v' : Value) => (hS.out.step (v' := v') hlt hwf)) (fun (X Y Z : World) (v' : Value) (h : OutsR X w.heap.size (w.heap.size + 1) es AA CC k φ) => h.step (W' := Y) (W'' := Z) (v' := v') hlt)
    obtain ⟨W5, hW5⟩ : ∃ W, wr.alloc (.cells #[.int .i64 es[k].f, .int .i64 es[k].t, .int .u8 es[k].k, .int .i64 es[k].n, .int .u8 es[k].cmp, .slice (AA k) es[k].l.length (CC k), .int .i64 es[k].p] 60) = W := ⟨_, rfl⟩
    have x0 : W5.cell? ⟨wr.heap.size, 0, none⟩ = some (.int .i64 es[k].f) := by rw [← hW5]; exact cell_newest rfl rfl
    have x1 : W5.cell? ⟨wr.heap.size, 1, none⟩ = some (.int .i64 es[k].t) := by rw [← hW5]; exact cell_newest rfl rfl
    have x2 : W5.cell? ⟨wr.heap.size, 2, none⟩ = some (.int .u8 es[k].k) := by rw [← hW5]; exact cell_newest rfl rfl
    have x3 : W5.cell? ⟨wr.heap.size, 3, none⟩ = some (.int .i64 es[k].n) := by rw [← hW5]; exact cell_newest rfl rfl
    have x4 : W5.cell? ⟨wr.heap.size, 4, none⟩ = some (.int .u8 es[k].cmp) := by rw [← hW5]; exact cell_newest rfl rfl
    have x5 : W5.cell? ⟨wr.heap.size, 5, none⟩ = some (.slice (AA k) es[k].l.length (CC k)) := by rw [← hW5]; exact cell_newest rfl rfl
    have x6 : W5.cell? ⟨wr.heap.size, 6, none⟩ = some (.int .i64 es[k].p) := by rw [← hW5]; exact cell_newest rfl rfl
    obtain ⟨HMa, HOa, HB5, HOb, Hlt5⟩ := hid5 (hW5 ▸ hM.out.alloc (.cells #[.int .i64 es[k].f, .int .i64 es[k].t, .int .u8 es[k].k, .int .i64 es[k].n, .int .u8 es[k].cmp, .slice (AA k) es[k].l.length (CC k), .int .i64 es[k].p] 60)) (hW5 ▸ hO.out.alloc (.cells #[.int .i64 es[k].f, .int .i64 es[k].t, .int .u8 es[k].k, .int .i64 es[k].n, .int .u8 es[k].cmp, .slice (AA k) es[k].l.length (CC k), .int .i64 es[k].p] 60)) (hW5 ▸ hbel.alloc (by have := hbel.size; omega) (.cells #[.int .i64 es[k].f, .int .i64 es[k].t, .int .u8 es[k].k, .int .i64 es[k].n, .int .u8 es[k].cmp, .slice (AA k) es[k].l.length (CC k), .int .i64 es[k].p] 60)) hO.out (show wr.heap.size < W5.heap.size by rw [← hW5]; simp)
    have hLK := look_e HMa.out.drew hS.out hO.out.nul hwf
    have hLK2 := look_e (HMa.out.alloc (.cells #[.int .i64 es[k].f, .int .i64 es[k].t, .int .u8 es[k].k, .int .i64 es[k].n, .int .u8 es[k].cmp, .slice (AA k) es[k].l.length (CC k), .int .i64 es[k].p] 60)).drew hS.out hO.out.nul hwf
    have hED : edL es AA CC k = [.int .i64 es[k].f, .int .i64 es[k].t, .int .u8 es[k].k, .int .i64 es[k].n, .int .u8 es[k].cmp, .slice (AA k) es[k].l.length (CC k), .int .i64 es[k].p] := by
     rw [edL, edC_0 hlt, edC_1 hlt, edC_2 hlt, edC_3 hlt, edC_4 hlt, edC_5 hlt, edC_6 hlt]
    rw [hED] at hOS
    have hIX := idxE_le es k es[k].f
    obtain ⟨xs0, hxs⟩ : ∃ xs, (idxE es k es[k].f).flatMap (edL es AA CC) = xs := ⟨_, rfl⟩
    have hOW := HOa.out.own es[k].f
    rw [hxs] at hOS hOW
    obtain ⟨m0, hm0⟩ : ∃ m, (idxE es k es[k].f).length = m := ⟨_, rfl⟩
    rw [hm0] at hOS hOW hIX
    obtain ⟨Hbel, HM0⟩ := hid2 hbel (show m0 ≤ 100000000 by have := HL.out; omega)
    obtain ⟨q0, hq0⟩ : ∃ q, es[k].f = q := ⟨_, rfl⟩
    obtain ⟨u0, hu0⟩ : ∃ u, φ q0 = u := ⟨_, rfl⟩
    rw [hq0] at p0 hwf hST hOS hLK hLK2 hOW x0 hW5
    rw [hu0] at hLK hLK2 hOW hOS
    generalize es[k].t = q1 at *
    generalize es[k].k = q2 at *
    generalize es[k].n = q3 at *
    generalize es[k].cmp = q4 at *
    generalize es[k].l.length = q5 at *
    generalize es[k].p = q6 at *
    generalize AA k = A1 at *
    generalize CC k = C1 at *
    obtain ⟨HOW, Hu, HBu, Hne5⟩ := hid4 hOW hu0 (show ∀ g, u0.ownBlock = some g → w.heap.size ≤ g from fun g e => ((HOb.out.own q0).lt g (by rw [hu0]; exact e)).1) (show some wr.heap.size ≠ u0.ownBlock from fun e => by have := ((HOb.out.own q0).lt wr.heap.size (by rw [hu0]; exact e.symm)).2; omega)
    have x0b := keepC ((Below.refl _ _).alloc (Nat.le_refl _) (.cells #[.int .i64 q0, .int .i64 q1, .int .u8 q2, .int .i64 q3, .int .u8 q4, .slice A1 q5 C1, .int .i64 q6] 60)) x0
    obtain ⟨Hoff, Hn, Hwf⟩ := hid3 (show some (w.heap.size + 1) ≠ u0.ownBlock from fun e => HOa.out.off q0 (by rw [hu0]; exact e.symm)) (show n < maxLen by have := HL.out; simp only [maxLen]; omega) hwf
    clear hED hxs hm0 hM hS hO hIX hq0 hu0 hOW hbel hwf
    obtain ⟨i0, hi, hz0, hz1, hz2⟩ := info_parts infoEd
    go_upto_region 5 with fail
    have HH5 := hid hW5
    clear hW5 p0 p1 p2 p3 p4 p5 p6
    refine Code.wp_mono (Q := fun x a wx => match x with | Exit.normal => (∃ y5 y11 y12 y13 y14 y15 y16 y17 y18 y19 y20 y21 y22 y23 y24 : Value, a = { tmps := #[.agg #[g0, g1, g2, g3, g4, .slice (some ⟨bb, oo, none⟩) es.length c], .pointer (some ⟨w.heap.size, 0, none⟩), .map none, .map (some (w.heap.size + 1)), undef, y5, .map (some (w.heap.size + 1)), .pointer (some ⟨w.heap.size, 5, none⟩), .slice (some ⟨bb, oo, none⟩) es.length c, .int .i64 es.length, .int .i64 k, y11, y12, y13, y14, y15, y16, y17, y18, y19, y20, y21, y22, y23, y24, undef], defers := [] }) ∧ ∃ D' φ', Hid (wx.ownsMap Tryz.prog 3 R0 (w.heap.size + 1) (n + 1) D') ∧ Hid (SaysE D' (hasE es (k + 1)) φ') ∧ Hid (OutsR wx w.heap.size (w.heap.size + 1) es AA CC (k + 1) φ') ∧ Below w.heap.size w wx | _ => False) ?_ ?_
    · intro x a wx hq
      cases x <;> try exact hq.elim
      obtain ⟨⟨y5, y11, y12, y13, y14, y15, y16, y17, y18, y19, y20, y21, y22, y23, y24, rfl⟩, D', φ', hM', hS', hO', hB'⟩ := hq
      clear hST hOS HOa HB5 hLK hLK2 x0 x1 x2 x3 x4 x5 x6 x0b HW HMa HOW HOb
      go_wp2
      go_roundw
      case rel => exact ⟨k + 1, n + 1, D', φ', by omega, by go_num, by omega, hM', hS', hO', hB'⟩
      case measure => simp [intOf]; omega
    go_region_law (go_loud (refine step_appF rfl _ _ 43 rfl w.heap.size 60 i0 (.agg #[.int .i64 0, .int .i64 0, .int .u8 0, .int .i64 0, .int .u8 0, .slice none 0 0, .int .i64 0]) 7 72 Tryz.underlying43 hi hz0 hz1 hz2 rfl (by omega) (by omega) _ _ _ rfl ((HOW.out.alloc _).drew) W5.heap.size [.int .i64 q0, .int .i64 q1, .int .u8 q2, .int .i64 q3, .int .u8 q4, .slice A1 q5 C1, .int .i64 q6] rfl rfl seven_news (by simp [Value.oneCell']) (by have := HM0.out; omega) (by have := HB5.out.size; simp; omega) ?_); intro v' w1 hown' hgrow hfresh; have x0c := (World.cell?_of_block (a := ⟨wr.heap.size, 0, none⟩) (hgrow.block wr.heap.size (by have := Hlt5.out; simp; omega) Hne5.out)).trans x0b; obtain ⟨w2, hrun, hM2, hgrow2⟩ := ((HMa.out.alloc (.cells #[.int .i64 q0, .int .i64 q1, .int .u8 q2, .int .i64 q3, .int .u8 q4, .slice A1 q5 C1, .int .i64 q6] 60)).drew.kept hgrow Hoff.out).update keyI Tryz.underlying86 Hn.out (keyI_mk Hwf.out) (val := v') rfl)
    all_goals
     have hB' := (((HB5.out.alloc HB5.out.size _).drew).grown hgrow (by have := HB5.out.size; simp; omega) HBu.out).grown hgrow2 (by have := HB5.out.size; have := hgrow.size; simp at this; omega) (fun g e => by injection e; omega)
     exact ⟨⟨_, _, _, _, _, _, _, _, _, _, _, _, _, _, _, rfl⟩, _, _, hid hM2, hid (hST.out v'), hid (hOS.out _ _ _ v' (HOa.out.alloc _).drew hown' hgrow hfresh hgrow2), hB'⟩
  · obtain rfl : k = es.length := by omega
    have Hbel := hid hbel
    clear hbel
    go_wp2
    go_ret
    exact ⟨w.heap.size + 1, n, D, φ, rfl, by omega, hn, hM.out, hS.out, hO.out, Hbel.out⟩
def oppE (k : Int) : Int := if k = 3 then 6 else if k = 6 then 3 else if k = 4 then 5 else if k = 5 then 4 else if k = 7 then 8 else if k = 8 then 7 else 0
theorem fopposite_any {k : Int} (h1 : 0 ≤ k) (h2 : k ≤ 8) : Calls Tryz.prog 53 #[.int .u8 k] w fun e w' => e = .returned (.int .u8 (oppE k)) ∧ w = w' := by
 have hk : k = 0 ∨ k = 1 ∨ k = 2 ∨ k = 3 ∨ k = 4 ∨ k = 5 ∨ k = 6 ∨ k = 7 ∨ k = 8 := by omega
 clear h1 h2
 have h0 : ∀ W, (Instr.index 135 (.agg #[.int .u8 0, .int .u8 0, .int .u8 0, .int .u8 6, .int .u8 5, .int .u8 4, .int .u8 3, .int .u8 8, .int .u8 7]) (.int .u8 k)).run Tryz.prog W = .ok (.int .u8 (oppE k)) W := by
  rcases hk with rfl | rfl | rfl | rfl | rfl | rfl | rfl | rfl | rfl
  all_goals
   intro W
   rfl
 clear hk
 generalize oppE k = q at *
 go_enter Tryz.func53, Tryz.ntmps53
 go_wp2
 go_ret
 exact ⟨rfl, rfl⟩
def rightL (d : Nat) : List Ed → Bool
 | [e] => e.k != 6
 | [e, f] => e.k == 6 && f.k == 6 && f.cmp == oppE e.cmp && alikeL (alikeE d) e.l f.l
 | _ => false
theorem fright_any {c : Nat} {l : List Ed} {AA : Nat → Option Addr} {CC : Nat → Nat} (he : EdsAt w d A c l AA CC) (hc : ∀ e ∈ l, e.k = 6 → 0 ≤ e.cmp ∧ e.cmp ≤ 8) :
  Calls Tryz.prog 32 #[.slice A l.length c] w fun r w' => r = .returned (.bool (rightL d l)) ∧ Below w.heap.size w w' := by
 match l, he, hc with
 | [], he, hc =>
   show Calls Tryz.prog 32 #[.slice A 0 c] w fun r w' => r = .returned (.bool false) ∧ Below w.heap.size w w'
   have hd := fun q => below_drewN' (Below.refl w.heap.size w) q
   have HD := hid hd
   clear he hc hd
   go_enter Tryz.func32, Tryz.ntmps32
   go_wp2
   first | go_quiet (fail) | fail
   go_wp2
   go_ret
   exact ⟨rfl, HD.out _⟩
 | [e], he, hc =>
   show Calls Tryz.prog 32 #[.slice A 1 c] w fun r w' => r = .returned (.bool (e.k != 6)) ∧ Below w.heap.size w w'
   obtain ⟨b, o, rfl, hbb, p0, p1, p2, p3, p4, p5, p6⟩ := he.1.at7 (j := 0) (by simp)
   rw [edC_2 (by simp)] at p2
   simp only [Nat.zero_mul, Nat.add_zero, List.getElem_cons_zero] at p2
   have hx : ((e.k : Int) != 6) = (e.k != 6) := by
    rw [Bool.eq_iff_iff, bne_iff_ne, bne_iff_ne]
    omega
   rw [← hx]
   clear he hc p0 p1 p3 p4 p5 p6 hx
   generalize e.k = k at *
   go_enter Tryz.func32, Tryz.ntmps32
   go_wp2
   go_ret
   exact ⟨rfl, Below.refl _ _⟩
 | [e, f], he, hc =>
   show Calls Tryz.prog 32 #[.slice A 2 c] w fun r w' => r = .returned (.bool (e.k == 6 && f.k == 6 && f.cmp == oppE e.cmp && alikeL (alikeE d) e.l f.l)) ∧ Below w.heap.size w w'
   obtain ⟨b, o, rfl, hbb, p0, p1, p2, p3, p4, p5, p6⟩ := he.1.at7 (j := 0) (by simp)
   obtain ⟨b', o', e1, hbb', r0, r1, r2, r3, r4, r5, r6⟩ := he.1.at7 (j := 1) (by simp)
   injection e1 with e1
   injection e1 with e1 e2
   subst e1 e2
   rw [edC_2 (by simp)] at p2 r2
   rw [edC_4 (by simp)] at p4 r4
   rw [edC_5 (by simp)] at p5 r5
   simp only [Nat.zero_mul, Nat.add_zero, List.getElem_cons_zero, List.getElem_cons_succ, Nat.one_mul] at p2 r2 p4 r4 p5 r5
   have hq := fun W (h : Below w.heap.size w W) => fequal_any (w := W) ((he.2 0 (by simp)).below h) ((he.2 1 (by simp)).below h)
   simp only [List.getElem_cons_zero, List.getElem_cons_succ] at hq
   have ho := fun (h : e.k = 6) W => fopposite_any (w := W) (k := e.cmp) (hc e (by simp) h).1 (hc e (by simp) h).2
   have t0 : ((e.k : Int) == 6) = (e.k == 6) := by rw [Bool.eq_iff_iff, beq_iff_eq, beq_iff_eq]; omega
   have t1 : ((f.k : Int) == 6) = (f.k == 6) := by rw [Bool.eq_iff_iff, beq_iff_eq, beq_iff_eq]; omega
   have hd := fun q => below_drewN' (Below.refl w.heap.size w) q
   obtain ⟨HD, HD1⟩ := hid2 hd ((Below.refl w.heap.size w).drew)
   obtain ⟨R, hR⟩ : ∃ R, alikeL (alikeE d) e.l f.l = R := ⟨_, rfl⟩
   obtain ⟨op, hop⟩ : ∃ x, oppE e.cmp = x := ⟨_, rfl⟩
   rw [hR] at hq ⊢
   rw [hop] at ho ⊢
   obtain ⟨HQ, HO⟩ := hid2 hq ho
   clear he hc p0 p1 p3 p6 r0 r1 r3 r6 hq ho hR hop hd
   generalize e.cmp = m0 at *
   generalize f.cmp = m1 at *
   generalize e.l.length = L0 at *
   generalize f.l.length = L1 at *
   generalize AA 0 = A0 at *
   generalize AA 1 = A1 at *
   generalize CC 0 = C0 at *
   generalize CC 1 = C1 at *
   generalize e.k = k0 at *
   generalize f.k = k1 at *
   by_cases h0 : k0 = 6
   · subst h0
     rw [beq_self_eq_true] at t0 ⊢
     by_cases h1 : k1 = 6
     · subst h1
       rw [beq_self_eq_true] at t1 ⊢
       replace HO := hid (HO.out rfl)
       by_cases h2 : m1 = op
       · have t2 : (m1 == op) = true := beq_iff_eq.2 h2
         rw [t2]
         have H2 := hid h2
         clear h2
         go_enter Tryz.func32, Tryz.ntmps32
         go_wp2
         go_still_tail 44, (by kernel_rfl)
         still_call ((HO.out _).mono fun e w' h => ⟨h.1, h.2.symm⟩)
         repeat still_step
         refine wpStill_nil ?_
         change wpList _ _ _ _ _ w.drew
         go_wp2_with fail
         refine (HQ.out _ HD1.out).mono ?_
         rintro e w1 ⟨rfl, hcc⟩
         have hb := from_ HD1.out hcc
         go_wp2
         go_ret
         exact ⟨rfl, hb⟩
       · have t2 : (m1 == op) = false := beq_eq_false_iff_ne.2 h2
         rw [t2]
         clear h2
         go_enter Tryz.func32, Tryz.ntmps32
         go_wp2
         first | go_quiet ((go_at_call 53; exact Calls.quiet_of_same ((HO.out _).mono fun e w' h => ⟨h.1, h.2.symm⟩))) | fail
         go_wp2
         go_ret
         exact ⟨rfl, HD.out _⟩
     · have t3 : (k1 == 6) = false := beq_eq_false_iff_ne.2 h1
       rw [t3] at t1 ⊢
       clear h1
       go_enter Tryz.func32, Tryz.ntmps32
       go_wp2
       first | go_quiet (fail) | fail
       go_wp2
       go_ret
       exact ⟨rfl, HD.out _⟩
   · have t3 : (k0 == 6) = false := beq_eq_false_iff_ne.2 h0
     rw [t3] at t0 ⊢
     clear h0
     go_enter Tryz.func32, Tryz.ntmps32
     go_wp2
     first | go_quiet (fail) | fail
     go_wp2
     go_ret
     exact ⟨rfl, HD.out _⟩
 | e :: f :: g :: t, he, hc =>
   show Calls Tryz.prog 32 #[.slice A (e :: f :: g :: t).length c] w fun r w' => r = .returned (.bool false) ∧ Below w.heap.size w w'
   have hl := he.1.len
   have h3 : 3 ≤ (e :: f :: g :: t).length := by simp
   have hd := fun q => below_drewN' (Below.refl w.heap.size w) q
   have HD := hid hd
   clear he hc hd
   generalize (e :: f :: g :: t).length = n at *
   have t1 : ((n : Int) == 1) = false := beq_eq_false_iff_ne.2 (by omega)
   have t2 : ((n : Int) == 2) = false := beq_eq_false_iff_ne.2 (by omega)
   go_enter Tryz.func32, Tryz.ntmps32
   go_wp2
   first | go_quiet (fail) | fail
   go_wp2
   go_ret
   exact ⟨rfl, HD.out _⟩
def edAt (es : List Ed) (j : Nat) : Ed := (es[j]?).getD ⟨0, 0, 0, 0, 0, [], 0⟩
def outsL (es : List Ed) (key : Int) : List Ed := (idxE es es.length key).map (edAt es)
theorem idxE_mem {es : List Ed} {k : Nat} (h : j ∈ idxE es k key) (hk : k ≤ es.length) : ∃ hj : j < es.length, es[j].f = key := by
 unfold idxE at h
 rw [List.mem_filter, List.mem_range] at h
 have hj : j < es.length := by omega
 refine ⟨hj, ?_⟩
 have h2 := of_decide_eq_true h.2
 rw [List.getElem?_eq_getElem hj] at h2
 simpa using h2
theorem flat7 {α β : Type} {f : α → List β} (hf : ∀ a, (f a).length = 7) : ∀ (l : List α) (j i : Nat) (hj : j < l.length), i < 7 → (l.flatMap f)[j * 7 + i]? = (f l[j])[i]?
 | [], j, i, hj, _ => absurd hj (by simp)
 | a :: l, 0, i, _, hi => by
   rw [List.flatMap_cons, Nat.zero_mul, Nat.zero_add, List.getElem?_append_left (by rw [hf]; exact hi)]
   rfl
 | a :: l, j + 1, i, hj, hi => by
   rw [List.flatMap_cons, List.getElem?_append_right (by rw [hf]; omega), hf, show (j + 1) * 7 + i - 7 = j * 7 + i by omega]
   exact flat7 hf l j i (by simpa using hj) hi
theorem edL_at (es : List Ed) (AA : Nat → Option Addr) (CC : Nat → Nat) (m i : Nat) (hi : i < 7) : (edL es AA CC m)[i]? = some (edC es AA CC m i) := by
 rcases i with _ | _ | _ | _ | _ | _ | _ | i
 all_goals first | rfl | omega
theorem OutsR.row {c0 : Nat} {A0 : Option Addr} {es : List Ed} {AA : Nat → Option Addr} {CC : Nat → Nat} {φ : Int → Value} (h : OutsR w B b es AA CC es.length φ) (he : EdsAt w d A0 c0 es AA CC) (key : Int) :
  ∃ A c AA' CC', φ key = .slice A (outsL es key).length c ∧ EdsAt w d A c (outsL es key) AA' CC' := by
 have hlen : (outsL es key).length = (idxE es es.length key).length := by simp [outsL]
 have ho := h.own key
 rcases ho.2 with ⟨e, hn⟩ | ⟨g, cap, cur, e, _, hg, hnc, hcm, _, _⟩
 · have h0 : outsL es key = [] := List.eq_nil_of_length_eq_zero (by omega)
   rw [h0]
   exact ⟨none, 0, fun _ => none, fun _ => 0, e, RowK.nil 7 w _, fun j hj => absurd hj (by simp)⟩
 · refine ⟨some ⟨g, 0, none⟩, cap, fun j => AA ((idxE es es.length key)[j]?.getD 0), fun j => CC ((idxE es es.length key)[j]?.getD 0), by rw [hlen]; exact e, ⟨by omega, by have := hcm; simp only [maxLen] at this; omega, fun _ => ⟨g, 0, rfl, (ho.lt g (by rw [e]; rfl)).2, fun j hj i hi => ?_⟩⟩, fun j hj => ?_⟩
   · have hj2 : j < (idxE es es.length key).length := by omega
     obtain ⟨hm, _⟩ := idxE_mem (List.getElem_mem hj2) (Nat.le_refl _)
     have hc := ho.cells (g := g) (by rw [e]; rfl) (j * 7 + i) (edC es AA CC (idxE es es.length key)[j] i) (by rw [flat7 (fun a => edL_size es AA CC a) _ j i hj2 hi, edL_at _ _ _ _ _ hi])
     rw [Addr.add_lit] at hc
     have e1 : edC (outsL es key) (fun j => AA ((idxE es es.length key)[j]?.getD 0)) (fun j => CC ((idxE es es.length key)[j]?.getD 0)) j i = edC es AA CC (idxE es es.length key)[j] i := by
      unfold edC
      rw [List.getElem?_eq_getElem hj, List.getElem?_eq_getElem hm]
      simp only [outsL, List.getElem_map, edAt, List.getElem?_eq_getElem hm, List.getElem?_eq_getElem hj2, Option.getD_some]
     rw [e1, ← hc]
     simp
   · have hj2 : j < (idxE es es.length key).length := by omega
     obtain ⟨hm, _⟩ := idxE_mem (List.getElem_mem hj2) (Nat.le_refl _)
     have h3 := he.2 _ hm
     have e2 : (outsL es key)[j] = es[(idxE es es.length key)[j]] := by simp [outsL, edAt, List.getElem?_eq_getElem hm]
     rw [e2]
     simp only [List.getElem?_eq_getElem hj2, Option.getD_some]
     exact h3
theorem outsL_mem {es : List Ed} {e : Ed} (h : e ∈ outsL es key) : e ∈ es ∧ e.f = key := by
 unfold outsL at h
 obtain ⟨j, hj, rfl⟩ := List.mem_map.1 h
 obtain ⟨hm, hf⟩ := idxE_mem hj (Nat.le_refl _)
 have e1 : edAt es j = es[j] := by simp [edAt, List.getElem?_eq_getElem hm]
 rw [e1]
 exact ⟨List.getElem_mem hm, hf⟩
def skipE (es : List Ed) (key : Int) : Option Int := match outsL es key with | [e] => if e.k = 1 then some e.t else none | _ => none
def chainE (es : List Ed) (node : Int) : Nat → Int → Bool
 | 0, _ => false
 | n + 1, p => match skipE es p with | none => false | some t => t == node || chainE es node n t
structure OkG (V : Int) (na : Nat) (nodes start last : Int) (d : Nat) (es : List Ed) : Prop where
 v : 0 ≤ V ∧ V ≤ 32
 a : na ≤ 4
 n : 2 ≤ nodes ∧ nodes ≤ 4096
 m : es.length ≤ 2048
 s : 0 ≤ start ∧ start < nodes
 l : 0 ≤ last ∧ last < nodes
 sl : start ≠ last
 e : ∀ e ∈ es, edgeE V na nodes d e = true
 k : ∀ key, hasE es es.length key = true → key ≠ last ∧ rightL d (outsL es key) = true ∧ chainE es key es.length key = false
theorem edgeE_parts {na : Int} {e : Ed} (h : edgeE V na nodes d e = true) : (0 ≤ e.f ∧ e.f < nodes) ∧ (0 ≤ e.t ∧ e.t < nodes) ∧ (e.k = 6 → 0 ≤ e.cmp ∧ e.cmp ≤ 8) := by
 unfold edgeE deedE headD cmpD at h
 simp only [Bool.and_eq_true, decide_eq_true_eq] at h
 refine ⟨h.1.1, h.1.2, fun hk => ?_⟩
 have h2 := h.2.1.2
 rw [if_pos hk] at h2
 simp only [Bool.and_eq_true, decide_eq_true_eq] at h2
 omega
theorem wf_i64 {n : Int} (h : 0 ≤ n ∧ n ≤ 4096) : (Lit.int .i64 n).wf = true := by
 have h1 : IntKind.i64.min = -9223372036854775808 := rfl
 have h2 : IntKind.i64.max = 9223372036854775807 := rfl
 simp [Lit.wf, h1, h2]
 omega
theorem Box6.kept {g : Nat} {b d : Value} {row : Option Nat} (h : Box6 W g a b c d e f) (hg : W.grownBy W' row) (hr : row ≠ some g) : Box6 W' g a b c d e f := by
 have hb := hg.block g h.lt (Ne.symm hr)
 exact ⟨(World.cell?_of_block (a := ⟨g, 0, none⟩) hb).trans h.c0, (World.cell?_of_block (a := ⟨g, 1, none⟩) hb).trans h.c1, (World.cell?_of_block (a := ⟨g, 2, none⟩) hb).trans h.c2, (World.cell?_of_block (a := ⟨g, 3, none⟩) hb).trans h.c3, (World.cell?_of_block (a := ⟨g, 4, none⟩) hb).trans h.c4, (World.cell?_of_block (a := ⟨g, 5, none⟩) hb).trans h.c5,
  (World.frozen?_of_block (a := ⟨g, 0, none⟩) hb).trans h.f0, (World.frozen?_of_block (a := ⟨g, 1, none⟩) hb).trans h.f1, (World.frozen?_of_block (a := ⟨g, 2, none⟩) hb).trans h.f2, (World.frozen?_of_block (a := ⟨g, 3, none⟩) hb).trans h.f3, (World.frozen?_of_block (a := ⟨g, 4, none⟩) hb).trans h.f4, (World.frozen?_of_block (a := ⟨g, 5, none⟩) hb).trans h.f5, Nat.lt_of_lt_of_le h.lt hg.size⟩
theorem grown_of_below (h : Below w.heap.size w w') : w.grownBy w' none := ⟨h.os, h.tape, h.output, h.size, fun k hk _ => h.block k hk⟩
theorem says_at {D : DataW Value} {has : Int → Bool} {φ : Int → Value} (h : SaysE D has φ) (hw : (Lit.int .i64 x).wf = true) (hat : ∀ zd, D.atKey (.int .i64 x) zd = .held c) : has x = true ∧ φ x = c := by
 cases hh : has x with
 | true =>
   have h1 := h.2 x hw .nil
   rw [hat, hh] at h1
   simp at h1
   exact ⟨rfl, h1.symm⟩
 | false =>
   have h1 := h.2 x hw .nil
   rw [hat, hh] at h1
   simp at h1
theorem skip_step {es : List Ed} {p : Int} {m : Nat} {e : Ed} (h : chainE es x (m + 1) p = false) (he : outsL es p = [e]) (hk : e.k = 1) : (e.t == x) = false ∧ chainE es x m e.t = false := by
 unfold chainE skipE at h
 rw [he] at h
 simp only [hk, if_true, Bool.or_eq_false_iff] at h
 exact h
theorem fcheck_good {c na ca : Nat} {start last : Int} {Aa : Option Addr} {es : List Ed} {AA : Nat → Option Addr} {CC : Nat → Nat} (hok : OkG V na nodes start last d es) (he : EdsAt w d A c es AA CC)
  (hA : ∀ W, Below w.heap.size w W → Calls Tryz.prog 26 #[.slice Aa na ca, .func (.func 27) #[] #[]] W fun e w' => e = .returned (.bool false) ∧ Below W.heap.size W w') :
  Calls Tryz.prog 14 #[.agg #[.int .i64 V, .slice Aa na ca, .int .i64 nodes, .int .i64 start, .int .i64 last, .slice A es.length c]] w fun r w' => r = .returned (.int .i64 0) ∧ Below w.heap.size w w' := by
 obtain ⟨W1, hW1⟩ : ∃ W, w.alloc (.cells #[.int .i64 V, .slice Aa na ca, .int .i64 nodes, .int .i64 start, .int .i64 last, .slice A es.length c] 45) = W := ⟨_, rfl⟩
 have hB1 : Below w.heap.size w W1 := by rw [← hW1]; exact (Below.refl _ _).alloc (Nat.le_refl _) _
 have hG : Box6 W1 w.heap.size (.int .i64 V) (.slice Aa na ca) (.int .i64 nodes) (.int .i64 start) (.int .i64 last) (.slice A es.length c) := by rw [← hW1]; exact Box6.new _ _ _ _ _ _ _ _
 obtain ⟨HB, HE0, HG, HE, HA, HOK⟩ := hid6 hB1 he hG (he.below hB1) (hA W1 hB1) hok
 have hv1 := hok.v.1
 have hv2 := hok.v.2
 have hn1 := hok.n.1
 have hn2 := hok.n.2
 have hm := hok.m
 have hna := hok.a
 have h1 : ∀ W, Calls Tryz.prog 25 #[.int .i64 start, .int .i64 nodes] W fun e w' => e = .returned (.bool true) ∧ W = w' := fun W => by
  have h := fbelow_any (w := W) start nodes
  rw [decide_eq_true hok.s.1, decide_eq_true hok.s.2] at h
  exact h
 have h2 : ∀ W, Calls Tryz.prog 25 #[.int .i64 last, .int .i64 nodes] W fun e w' => e = .returned (.bool true) ∧ W = w' := fun W => by
  have h := fbelow_any (w := W) last nodes
  rw [decide_eq_true hok.l.1, decide_eq_true hok.l.2] at h
  exact h
 have t1 : (start == last) = false := beq_eq_false_iff_ne.2 hok.sl
 obtain ⟨H1, H2⟩ := hid2 h1 h2
 have z0 := hG.all
 clear hB1 he hA hok h1 h2
 go_enter Tryz.func14, Tryz.ntmps14
 go_wp2_with fail
 refine (H1.out _).mono ?_
 rintro e w2 ⟨rfl, rfl⟩
 go_wp2_with fail
 refine (H2.out _).mono ?_
 rintro e w2 ⟨rfl, rfl⟩
 go_wp2_with fail
 refine HA.out.mono ?_
 rintro e w2 ⟨rfl, hc⟩
 replace HB := hid (from_ HB.out hc)
 replace HE := hid (HE.out.below hc)
 replace HG := hid (HG.out.below hc)
 have hED := fedges_any HE.out HG.out
 have hall : es.all (edgeE V na nodes d) = true := List.all_eq_true.2 HOK.out.e
 rw [hall] at hED
 have HED := hid hED
 obtain ⟨y0, y1, y2, y3, y4, y5, _, _, _, _, _, _, _⟩ := id HG.out
 clear hW1 z0 H1 H2 HA hc hall hED
 go_wp2_with fail
 refine HED.out.mono ?_
 rintro e w3 ⟨rfl, hc⟩
 clear t1 hv1 hv2 hn1 hn2 hna
 replace HB := hid (from_ HB.out hc)
 replace HE := hid (HE.out.below hc)
 replace HG := hid (HG.out.below hc)
 have hOU := fouts_any (w := w3) (g0 := .int .i64 V) (g1 := .slice Aa na ca) (g2 := .int .i64 nodes) (g3 := .int .i64 start) (g4 := .int .i64 last) HE.out (by omega) (fun e he => by
  have h := (edgeE_parts (HOK.out.e e he)).1
  have h2 := HOK.out.n.2
  exact wf_i64 ⟨h.1, by omega⟩)
 have HOU := hid hOU
 clear y0 y1 y2 y3 y4 y5 hc hOU HED
 obtain ⟨y0, y1, y2, y3, y4, y5, _, _, _, _, _, _, _⟩ := id HG.out
 go_wp2_with fail
 refine HOU.out.mono ?_
 rintro e w4 ⟨b, n, D, φ, rfl, hb, hn, hM, hS, hO, hc⟩
 replace HB := hid (from_ HB.out hc)
 replace HE := hid (HE.out.below hc)
 replace HG := hid (HG.out.below hc)
 obtain ⟨HM, HS, HO, Hb⟩ := hid4 hM hS hO hb
 clear y0 y1 y2 y3 y4 y5 hc HOU hM hS hO hb
 go_wp2_with (first | (at_range; refine wpList_range_own _ rfl _ 86 rfl 3 43 keyI Tryz.underlying86 R0 b n D rfl HM.out ?_; intro w5 hrg5 hg5 hs5) | fail)
 go_frame
 obtain ⟨r, hr⟩ : ∃ r, w4.heap.size = r := ⟨_, rfl⟩
 have hφr : ∀ key, (φ key).ownBlock ≠ some r := fun key e => by have := ((HO.out.own key).lt r e).2; omega
 have hgr : w.heap.size ≠ r := by have := HG.out.lt; omega
 have hO5 := HO.out.kept hg5 fun key => by
  cases (φ key).ownBlock with
  | none => exact .inl rfl
  | some g => exact .inr (by simp)
 have hG5 := HG.out.kept hg5 (by simp)
 have hB5 : Below w.heap.size w w5 := HB.out.grown hg5 HB.out.size (by simp)
 have hrb : w.heap.size ≤ r := by have := HB.out.size; omega
 rw [hr] at hrg5
 obtain ⟨HR5, HO5, HG5, HB5, Hφr, Hgr⟩ := hid6 hrg5 hO5 hG5 hB5 hφr hgr
 have Hrb := hid hrb
 have invK : ∀ key kl, keyOf Tryz.prog 3 key = some kl → ∃ x, key = Value.int .i64 x := fun key kl h => by
  obtain ⟨x, rfl, _⟩ := Maps.keyOf_int_inv Tryz.underlying3 h
  exact ⟨x, rfl⟩
 have HK := hid invK
 simp only [hr]
 clear hr hg5 hs5 hφr hgr hO5 hG5 hB5 hrb hrg5 invK HE HB HG HM HO
 go_loopw [] (fun wr => ∃ left cnt, Hid (wr.ranges Tryz.prog 3 R0 b r n D left cnt) ∧ Hid (OutsR wr w3.heap.size b es AA CC es.length φ) ∧ Hid (Box6 wr w.heap.size (.int .i64 V) (.slice Aa na ca) (.int .i64 nodes) (.int .i64 start) (.int .i64 last) (.slice A es.length c)) ∧ Below w.heap.size w wr) (fun wr => wr.rangeLeft b r)
 case atStart => exact ⟨_, _, HR5, HO5, HG5, HB5.out⟩
 case round =>
  obtain ⟨left, cnt, hR, hO, hG, hbel⟩ := hrel
  go_wp2_with (first | (at_next; refine wpList_next_ranges _ rfl _ rfl 3 keyI R0 (Value.int .i64) (fun v => v) HK.out (fun v y _ => ⟨v, rfl⟩) b r n D left cnt rfl hR.out ?_ ?_) | fail)
  · intro hc0 hl0
    go_wp2
    go_ret
    exact ⟨rfl, hbel⟩
  · intro x cv kl y ps w6 cnt6 hkl hlk hy hat hrg6 hlt6 hg6 hs6 hen
    obtain ⟨x', ex, rfl, hwx⟩ := Maps.keyOf_int_inv Tryz.underlying3 hkl
    injection ex with _ ex
    subst ex
    have hy1 : y = .held cv := by
     simp only [R0, Option.some.injEq, Prod.mk.injEq] at hy
     exact hy.1.symm
    subst hy1
    obtain ⟨hhas, hφx⟩ := says_at HS.out hwx hat
    obtain ⟨k1, k2, k3⟩ := HOK.out.k x hhas
    have hB6 : Below w.heap.size w w6 := hbel.grown hg6 hbel.size (fun g e => by injection e with e; have := Hrb.out; omega)
    have hO6 := hO.out.kept hg6 (fun key => .inr (Hφr.out key))
    have hG6 := hG.out.kept hg6 (by have := Hgr.out; simp; omega)
    obtain ⟨A6, c6, AA6, CC6, e6, hE6⟩ := hO6.row (HE0.out.below hB6) x
    rw [← hφx, e6] at hen
    have hRT := fright_any (w := w6) hE6 (fun e he => (edgeE_parts (HOK.out.e e (outsL_mem he).1)).2.2)
    rw [k2] at hRT
    have t1 : (x == last) = false := beq_eq_false_iff_ne.2 k1
    obtain ⟨HK3, HRT, HR6, HO6, HG6, HB6⟩ := hid6 k3 hRT hrg6 hO6 hG6 hB6
    have HL6 := hid (And.intro hlt6 hR.out.left_eq)
    have hfx : 0 ≤ x ∧ x ≤ 4096 := by
     obtain ⟨j, hj⟩ : ∃ j, j ∈ idxE es es.length x := by
      have h0 := of_decide_eq_true hhas
      exact ⟨_, List.getElem_mem (n := 0) h0⟩
     obtain ⟨hm, hf⟩ := idxE_mem hj (Nat.le_refl _)
     have h1 := (edgeE_parts (HOK.out.e _ (List.getElem_mem hm))).1
     have h2 := HOK.out.n.2
     rw [hf] at h1
     exact ⟨h1.1, by omega⟩
    have HX := hid hfx
    obtain ⟨y0, y1, y2, y3, y4, y5, _, _, _, _, _, _, _⟩ := hG6
    subst hφx
    rw [e6]
    clear hkl hlk hy hat hlt6 hg6 hs6 hwx hhas k1 k2 k3 hB6 hO6 hE6 hRT hrg6 hfx hR hO hG hbel e6
    generalize (outsL es x).length = L6 at *
    go_wp2_with fail
    refine HRT.out.mono ?_
    rintro e w7 ⟨rfl, hc⟩
    have hgn := grown_of_below hc
    have HR7 := hid (HR6.out.kept hgn (by simp) (by simp))
    have HO7 := hid (HO6.out.kept hgn fun key => by
     cases (φ key).ownBlock with
     | none => exact .inl rfl
     | some g => exact .inr (by simp))
    obtain ⟨HG7, HB7⟩ := hid2 (HG6.out.kept hgn (by simp)) (from_ HB6.out hc)
    have HMS : Hid (w7.rangeLeft b r < wr.rangeLeft b r) := hid (by rw [HR7.out.left_eq, HL6.out.2]; exact HL6.out.1)
    have HM7 := hid HR7.out.owns
    clear y0 y1 y2 y3 y4 y5 hc hgn HRT HR6 HO6 HG6 HB6 HL6 hen
    have y0 := HG7.out.all
    go_wp2_with fail
    go_loopw [7, 94] (fun s7 i wz => ∃ (k : Nat) (p : Int), k ≤ es.length ∧ i = .int .i64 (k : Int) ∧ s7 = .int .i64 p ∧ Hid (0 ≤ p ∧ p ≤ 4096) ∧ Hid (chainE es x (es.length - k) p = false) ∧ wz = w7) (fun s7 i _ => es.length - (intOf i).toNat)
    case atStart => exact ⟨0, x, Nat.zero_le _, rfl, rfl, HX, HK3, rfl⟩
    case round =>
     obtain ⟨k, p, hk, rfl, rfl, hp, hch, rfl⟩ := hrel
     by_cases hlt : k < es.length
     · have hLK := look_e HM7.out HS.out HO7.out.nul (wf_i64 hp.out)
       obtain ⟨m, hm1⟩ : ∃ m, es.length - k = m + 1 := ⟨es.length - k - 1, by omega⟩
       have hm2 : es.length - (k + 1) = m := by omega
       rw [hm1] at hch
       have Hm2 := hid hm2
       obtain ⟨A7, c7, AA7, CC7, e7, hE7⟩ := HO7.out.row (HE0.out.below HB7.out) p
       rw [e7] at hLK
       obtain ⟨hst, hmm⟩ := hid2 (fun e he hk => skip_step (e := e) hch.out he hk) (fun e (he : e ∈ outsL es p) => (edgeE_parts (HOK.out.e e (outsL_mem he).1)).2.1)
       clear hm1 hm2 hch e7
       generalize outsL es p = l at *
       rcases l with _ | ⟨e, _ | ⟨f, t⟩⟩
       · clear hE7 hst hmm
         have t0 : (((0 : Nat) : Int) == 1) = false := rfl
         replace hLK : (Instr.lookup 86 (.map (some b)) (.int .i64 p) false).run Tryz.prog wr = .ok (.slice A7 0 c7) wr := hLK
         go_wp2
         go_roundw
         case rel => exact ⟨_, cnt6, HR7, HO7, HG7, HB7.out⟩
         case measure => exact HMS.out
       · obtain ⟨b7, o7, rfl, hbb, p0, p1, p2, _, _, _, _⟩ := hE7.1.at7 (j := 0) (by simp)
         rw [edC_1 (by simp)] at p1
         rw [edC_2 (by simp)] at p2
         simp only [Nat.zero_mul, Nat.add_zero, List.getElem_cons_zero] at p1 p2
         replace hLK : (Instr.lookup 86 (.map (some b)) (.int .i64 p) false).run Tryz.prog wr = .ok (.slice (some ⟨b7, o7, none⟩) 1 c7) wr := hLK
         by_cases h1 : e.k = 1
         · obtain ⟨q1, q2⟩ := hst.out e rfl h1
           obtain ⟨Q2, Q3, Hn2⟩ := hid3 q2 (hmm.out e (by simp)) HOK.out.n.2
           rw [h1] at p2
           clear hE7 hst hmm p0 h1 q2
           generalize e.t = q at *
           go_wp2
           go_roundw
           case rel => exact ⟨k + 1, q, by omega, by go_num, by first | rfl | trivial, hid ⟨Q3.out.1, by have := Q3.out.2; have := Hn2.out; omega⟩, hid (by rw [Hm2.out]; exact Q2.out), by first | rfl | trivial⟩
           case measure => simp [intOf]; omega
         · have t0 : ((e.k : Int) == 1) = false := beq_eq_false_iff_ne.2 (by omega)
           clear hE7 hst hmm p0 h1
           go_wp2
           go_roundw
           case rel => exact ⟨_, cnt6, HR7, HO7, HG7, HB7.out⟩
           case measure => exact HMS.out
       · have hl7 := hE7.1.len
         have h2 : 2 ≤ (e :: f :: t).length := by simp
         clear hE7 hst hmm
         generalize (e :: f :: t).length = n7 at *
         have t0 : ((n7 : Int) == 1) = false := beq_eq_false_iff_ne.2 (by omega)
         go_wp2
         go_roundw
         case rel => exact ⟨_, cnt6, HR7, HO7, HG7, HB7.out⟩
         case measure => exact HMS.out
     · obtain rfl : k = es.length := by omega
       clear hch
       go_wp2
       go_roundw
       case rel => exact ⟨_, cnt6, HR7, HO7, HG7, HB7.out⟩
       case measure => exact HMS.out
end Go.Proofs.YtcheajjjdbllfaaGreat
