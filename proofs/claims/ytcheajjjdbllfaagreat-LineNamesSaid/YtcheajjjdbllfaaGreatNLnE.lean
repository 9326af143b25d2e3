/- flow.deed: whether a deed may be. No conditions. -/
import Derived.BigQuiet
import Derived.Laws.EntriesVeiled
import Derived.WideLaws
import Derived.Test.YtcheajjjdbllfaaGreatNLnC
set_option linter.unusedVariables false
set_option linter.unusedSimpArgs false
set_option maxRecDepth 100000
set_option maxHeartbeats 40000000
namespace Go.Proofs.YtcheajjjdbllfaaGreat
open Go.Lib (hid)
open Go.RowKit
variable {A Aa : Option Addr} {N V cmp nodes : Int} {W w : World} {bg c ca d g na : Nat} {g2 g3 g4 g5 : Value}
def dargs : List Int := [0, 0, 0, 1, 2, 0, 2, 0, 0]
def dmost (V na : Int) : List Int := [0, 1, 1, V, na, V, 1, 1, 1]
def Nine (W : World) (g : Nat) (l : List Int) : Prop := ∀ i (h : i < l.length), W.cell? ⟨g, i, none⟩ = some (.int .i64 l[i])
theorem Nine.below {W' : World} {l : List Int} (h : Nine W g l) (hb : Below W.heap.size W W') : Nine W' g l := fun i hi => keepC hb (h i hi)
theorem nine_of {a b c d e f x y z : Int} (h0 : W.cell? ⟨g, 0, none⟩ = some (.int .i64 a)) (h1 : W.cell? ⟨g, 1, none⟩ = some (.int .i64 b)) (h2 : W.cell? ⟨g, 2, none⟩ = some (.int .i64 c)) (h3 : W.cell? ⟨g, 3, none⟩ = some (.int .i64 d)) (h4 : W.cell? ⟨g, 4, none⟩ = some (.int .i64 e)) (h5 : W.cell? ⟨g, 5, none⟩ = some (.int .i64 f)) (h6 : W.cell? ⟨g, 6, none⟩ = some (.int .i64 x)) (h7 : W.cell? ⟨g, 7, none⟩ = some (.int .i64 y)) (h8 : W.cell? ⟨g, 8, none⟩ = some (.int .i64 z)) : Nine W g [a, b, c, d, e, f, x, y, z] := fun i hi => by
 rcases i with _ | _ | _ | _ | _ | _ | _ | _ | _ | i
 · exact h0
 · exact h1
 · exact h2
 · exact h3
 · exact h4
 · exact h5
 · exact h6
 · exact h7
 · exact h8
 · simp at hi
   omega
theorem fexpr_any :
  Calls Tryz.prog 50 #[.agg #[.int .i64 V, .slice Aa na ca, g2, g3, g4, g5]] w fun e w' => ∃ bg bf : Nat, e = .returned (.func (.func 84) #[] #[.pointer (some ⟨bg, 0, none⟩), .pointer (some ⟨bf, 0, none⟩)]) ∧ Box6 w' bg (.int .i64 V) (.slice Aa na ca) g2 g3 g4 g5 ∧ w'.cell? ⟨bf, 0, none⟩ = some (.func (.func 84) #[] #[.pointer (some ⟨bg, 0, none⟩), .pointer (some ⟨bf, 0, none⟩)]) ∧ Below w.heap.size w w' := by
 have hB := Box6.new w (.int .i64 V) (.slice Aa na ca) g2 g3 g4 g5 45
 have h0 : Below w.heap.size w (w.alloc (.cells #[.int .i64 V, .slice Aa na ca, g2, g3, g4, g5] 45)) := (Below.refl _ _).alloc (Nat.le_refl _) _
 have HB := hid (And.intro hB h0)
 clear hB h0
 go_enter Tryz.func50, Tryz.ntmps50
 go_wp2
 go_ret
 exact ⟨_, _, rfl, HB.out.1.alloc _, cell_newest (by simp) rfl, HB.out.2.alloc HB.out.2.size _⟩
def cmpD (k : Nat) (cmp : Int) : Bool := if k = 6 then decide (3 ≤ cmp) && decide (cmp ≤ 8) else cmp == 0
def headD (V na : Int) (k : Nat) (N cmp L : Int) : Bool := decide (1 ≤ k) && decide (k ≤ 8) && (decide (0 ≤ N) && decide (N < ((dmost V na)[k]?).getD 0)) && decide (L = (dargs[k]?).getD 0) && cmpD k cmp
theorem fdeed1 {L : Nat} {k : Nat} {R : Bool} 
  (hC : ∀ W b7 bg bf, Below w.heap.size w W → Box6 W bg (.int .i64 V) (.slice Aa na ca) g2 g3 g4 g5 → W.cell? ⟨bf, 0, none⟩ = some (.func (.func 84) #[] #[.pointer (some ⟨bg, 0, none⟩), .pointer (some ⟨bf, 0, none⟩)]) → W.cell? ⟨b7, 0, none⟩ = some (.func (.func 84) #[] #[.pointer (some ⟨bg, 0, none⟩), .pointer (some ⟨bf, 0, none⟩)]) →
   Calls Tryz.prog 51 #[.slice A L c, .func (.func 52) #[] #[.pointer (some ⟨b7, 0, none⟩)]] W fun e w' => e = .returned (.bool R) ∧ Below W.heap.size W w') :
  Calls Tryz.prog 30 #[.agg #[.int .i64 V, .slice Aa na ca, g2, g3, g4, g5], .agg #[.int .u8 k, .int .i64 N, .int .u8 cmp, .slice A L c]] w fun e w' =>
   e = .returned (.bool (headD V na k N cmp L && !R)) ∧ Below w.heap.size w w' := by
 have hB1 : Below w.heap.size w (w.alloc (.cells #[.int .i64 V, .slice Aa na ca, g2, g3, g4, g5] 45)) := (Below.refl _ _).alloc (Nat.le_refl _) _
 have hB0 := hB1.alloc hB1.size (.cells #[.int .u8 k, .int .i64 N, .int .u8 cmp, .slice A L c] 58)
 have hG : Box6 _ _ _ _ _ _ _ _ := (Box6.new w (.int .i64 V) (.slice Aa na ca) g2 g3 g4 g5 45).alloc (.cells #[.int .u8 k, .int .i64 N, .int .u8 cmp, .slice A L c] 58)
 have d0 : ((w.alloc (.cells #[.int .i64 V, .slice Aa na ca, g2, g3, g4, g5] 45)).alloc (.cells #[.int .u8 k, .int .i64 N, .int .u8 cmp, .slice A L c] 58)).cell? ⟨w.heap.size + 1, 0, none⟩ = some (.int .u8 k) := cell_newest (by simp) rfl
 have d1 : ((w.alloc (.cells #[.int .i64 V, .slice Aa na ca, g2, g3, g4, g5] 45)).alloc (.cells #[.int .u8 k, .int .i64 N, .int .u8 cmp, .slice A L c] 58)).cell? ⟨w.heap.size + 1, 1, none⟩ = some (.int .i64 N) := cell_newest (by simp) rfl
 have d2 : ((w.alloc (.cells #[.int .i64 V, .slice Aa na ca, g2, g3, g4, g5] 45)).alloc (.cells #[.int .u8 k, .int .i64 N, .int .u8 cmp, .slice A L c] 58)).cell? ⟨w.heap.size + 1, 2, none⟩ = some (.int .u8 cmp) := cell_newest (by simp) rfl
 have d3 : ((w.alloc (.cells #[.int .i64 V, .slice Aa na ca, g2, g3, g4, g5] 45)).alloc (.cells #[.int .u8 k, .int .i64 N, .int .u8 cmp, .slice A L c] 58)).cell? ⟨w.heap.size + 1, 3, none⟩ = some (.slice A L c) := cell_newest (by simp) rfl
 have hgs : w.heap.size < ((w.alloc (.cells #[.int .i64 V, .slice Aa na ca, g2, g3, g4, g5] 45)).alloc (.cells #[.int .u8 k, .int .i64 N, .int .u8 cmp, .slice A L c] 58)).heap.size := by simp; omega
 obtain ⟨HB, HC, HW, HX⟩ := hid4 hB0 hC (fun (a b : Int) (W : World) => fbelow_any (w := W) a b) (fun (W : World) => fexpr_any (w := W) (na := na) (ca := ca) (V := V) (Aa := Aa) (g2 := g2) (g3 := g3) (g4 := g4) (g5 := g5))
 clear hB0 hB1 hC
 go_enter Tryz.func30, Tryz.ntmps30
 go_upto_region 2 with fail
 generalize hW1 : ((w.alloc (.cells #[.int .i64 V, .slice Aa na ca, g2, g3, g4, g5] 45)).alloc (.cells #[.int .u8 k, .int .i64 N, .int .u8 cmp, .slice A L c] 58)) = W1 at *
 clear hW1
 have HG := hid hG
 obtain ⟨z0, z1, _, _, _, _, _, _, _, _, _, _, _⟩ := hG
 go_cut [5, 6] (fun s5 s6 wx => ∃ x5 x6 : Nat, s5 = .pointer (some ⟨x5, 0, none⟩) ∧ s6 = .pointer (some ⟨x6, 0, none⟩) ∧ Nine wx x5 dargs ∧ Nine wx x6 (dmost V na) ∧ Below W1.heap.size W1 wx)
 case first =>
  go_region
  all_goals
   go_wp2_with fail
   go_meet
   refine ⟨_, _, rfl, rfl, ?_, ?_, (((Below.refl W1.heap.size W1).alloc (Nat.le_refl _) _).alloc (by simp) _).drew⟩
   · exact nine_of (by simp) (by simp) (by simp) (by simp) (by simp) (by simp) (by simp) (by simp) (by simp)
   · exact nine_of (by simp) (by simp) (by simp) (by simp) (by simp) (by simp) (by simp) (by simp) (by simp)
 case rest =>
  obtain ⟨x5, x6, rfl, rfl, n5, n6, hc⟩ := hcut
  replace d0 := keepC hc d0
  replace d1 := keepC hc d1
  replace d2 := keepC hc d2
  replace d3 := keepC hc d3
  replace HG := hid (HG.out.below hc)
  replace HB := hid (from_ HB.out hc)
  clear z0 z1 hc
  obtain ⟨W2, hren⟩ : ∃ W, W = wc := ⟨_, rfl⟩
  subst hren
  by_cases hk : 1 ≤ k ∧ k ≤ 8
  · obtain ⟨M, hM⟩ : ∃ M, ((dmost V na)[k]?).getD 0 = M := ⟨_, rfl⟩
    obtain ⟨Q, hQ⟩ : ∃ Q, (dargs[k]?).getD 0 = Q := ⟨_, rfl⟩
    have m6 : W2.cell? ⟨x6, k, none⟩ = some (.int .i64 M) := by
     have h : k < (dmost V na).length := by simp [dmost]; omega
     rw [n6 k h, ← hM, List.getElem?_eq_getElem h]
     rfl
    have m5 : W2.cell? ⟨x5, k, none⟩ = some (.int .i64 Q) := by
     have h : k < dargs.length := by simp [dargs]; omega
     rw [n5 k h, ← hQ, List.getElem?_eq_getElem h]
     rfl
    have hk1 : (1 : Int) ≤ (k : Int) := by omega
    have hk2 : (k : Int) ≤ 8 := by omega
    have t1 : decide ((k : Int) < 1) = false := decide_eq_false (by omega)
    have t2 : decide ((8 : Int) < (k : Int)) = false := decide_eq_false (by omega)
    have hk3 : (0 : Int) ≤ (k : Int) := by omega
    have hk4 : (k : Int) < 9 := by omega
    obtain ⟨bw, hbw⟩ : ∃ b, (decide (0 ≤ N) && decide (N < M)) = b := ⟨_, rfl⟩
    have hH : headD V na k N cmp L = (bw && decide ((L : Int) = Q) && cmpD k cmp) := by
     rw [headD, hM, hQ, hbw, decide_eq_true hk.1, decide_eq_true hk.2, Bool.true_and, Bool.true_and]
    obtain ⟨HH, HK⟩ := hid2 hH hk
    replace HW := hid (fun (W : World) => hbw ▸ HW.out N M W)
    clear n5 n6 hM hQ hH hk hbw hk1 hk2
    cases bw with
    | false =>
      go_upto_region 2 with fail
      first | go_quiet ((go_at_call 25; exact Calls.quiet_of_same ((HW.out _).mono fun e w' h => ⟨h.1, h.2.symm⟩))) | fail
      go_wp2
      go_ret
      exact ⟨by rw [HH.out]; rfl, below_drewN' HB.out _⟩
    | true =>
      by_cases hL : (L : Int) = Q
      · have t3 : ((L : Int) != Q) = false := by simp [hL]
        have HL := hid hL
        clear hL
        go_upto_region 2 with fail
        first | go_quiet ((go_at_call 25; exact Calls.quiet_of_same ((HW.out _).mono fun e w' h => ⟨h.1, h.2.symm⟩))) | fail
        by_cases h6 : k = 6
        · subst h6
          by_cases q1 : cmp < 3
          · have t4 : decide (cmp < 3) = true := decide_eq_true q1
            have HQ := hid (show cmpD 6 cmp = false by simp [cmpD]; omega)
            clear q1
            go_wp2
            go_ret
            exact ⟨by rw [HH.out, show cmpD _ cmp = false from HQ.out]; simp, below_drewN' HB.out _⟩
          · by_cases q2 : 8 < cmp
            · have t4 : decide (cmp < 3) = false := decide_eq_false q1
              have t5 : decide (8 < cmp) = true := decide_eq_true q2
              have HQ := hid (show cmpD 6 cmp = false by simp [cmpD]; omega)
              clear q1 q2
              go_wp2
              go_ret
              exact ⟨by rw [HH.out, show cmpD _ cmp = false from HQ.out]; simp, below_drewN' HB.out _⟩
            · have t4 : decide (cmp < 3) = false := decide_eq_false q1
              have t5 : decide (8 < cmp) = false := decide_eq_false q2
              have HQ := hid (show cmpD 6 cmp = true by simp [cmpD]; omega)
              clear q1 q2
              obtain ⟨z0, z1, z2, z3, z4, z5, _, _, _, _, _, _, _⟩ := id HG.out
              go_wp2_with fail
              refine (HX.out _).mono ?_
              rintro e w3 ⟨bg, bf, rfl, hgb, hcf, hc⟩
              replace d3 := keepC hc (show (W2.drewN _).cell? _ = _ from d3)
              have HB3 := hid (from_ (below_drewN' HB.out _) hc)
              have hal : Below w3.heap.size w3 (w3.alloc (.cells #[.func (.func 84) #[] #[.pointer (some ⟨bg, 0, none⟩), .pointer (some ⟨bf, 0, none⟩)]] 108)) := (Below.refl _ _).alloc (Nat.le_refl _) _
              have CC := hid (HC.out _ w3.heap.size bg bf (from_ HB3.out hal) (hgb.below hal) (keepC hal hcf) (cell_newest rfl rfl))
              replace d3 := keepC hal d3
              have HB4 := hid (from_ HB3.out hal)
              clear z0 z1 z2 z3 z4 z5 d0 d1 d2 hgb hcf hc hal HB3 HB HX HC
              go_wp2_with fail
              refine CC.out.mono ?_
              rintro e w4 ⟨rfl, hc⟩
              have hb := from_ HB4.out hc
              go_wp2
              go_ret
              exact ⟨by rw [HH.out, decide_eq_true HL.out, show cmpD _ cmp = true from HQ.out]; rfl, hb⟩
        · have t6 : ((k : Int) == 6) = false := beq_eq_false_iff_ne.2 (by omega)
          have t7 : ((k : Int) != 6) = true := bne_iff_ne.2 (by omega)
          by_cases q1 : cmp = 0
          · have t4 : (cmp != 0) = false := by rw [q1]; rfl
            have HQ := hid (show cmpD k cmp = true by rw [cmpD, if_neg h6, q1]; rfl)
            clear q1 h6
            have z0 := HG.out.all
            go_wp2_with fail
            refine (HX.out _).mono ?_
            rintro e w3 ⟨bg, bf, rfl, hgb, hcf, hc⟩
            replace d3 := keepC hc (show (W2.drewN _).cell? _ = _ from d3)
            have HB3 := hid (from_ (below_drewN' HB.out _) hc)
            have hal : Below w3.heap.size w3 (w3.alloc (.cells #[.func (.func 84) #[] #[.pointer (some ⟨bg, 0, none⟩), .pointer (some ⟨bf, 0, none⟩)]] 108)) := (Below.refl _ _).alloc (Nat.le_refl _) _
            have CC := hid (HC.out _ w3.heap.size bg bf (from_ HB3.out hal) (hgb.below hal) (keepC hal hcf) (cell_newest rfl rfl))
            replace d3 := keepC hal d3
            have HB4 := hid (from_ HB3.out hal)
            clear z0 d0 d1 d2 hgb hcf hc hal HB3 HB HX HC
            go_wp2_with fail
            refine CC.out.mono ?_
            rintro e w4 ⟨rfl, hc⟩
            have hb := from_ HB4.out hc
            go_wp2
            go_ret
            exact ⟨by rw [HH.out, decide_eq_true HL.out, show cmpD _ cmp = true from HQ.out]; rfl, hb⟩
          · have t4 : (cmp != 0) = true := bne_iff_ne.2 q1
            have HQ := hid (show cmpD k cmp = false by rw [cmpD, if_neg h6]; exact beq_eq_false_iff_ne.2 q1)
            clear q1 h6
            go_wp2
            go_ret
            exact ⟨by rw [HH.out, show cmpD _ cmp = false from HQ.out]; simp, below_drewN' HB.out _⟩
      · have t3 : ((L : Int) != Q) = true := bne_iff_ne.2 hL
        have HL := hid hL
        clear hL
        go_upto_region 2 with fail
        first | go_quiet ((go_at_call 25; exact Calls.quiet_of_same ((HW.out _).mono fun e w' h => ⟨h.1, h.2.symm⟩))) | fail
        go_wp2
        go_ret
        exact ⟨by rw [HH.out, decide_eq_false HL.out]; rfl, below_drewN' HB.out _⟩
  · have hk3 : k = 0 ∨ 9 ≤ k := by omega
    clear n5 n6
    have HH : Hid (headD V na k N cmp L = false) := hid (by
     rcases hk3 with rfl | h
     · simp [headD]
     · simp only [headD, decide_eq_false (show ¬ k ≤ 8 by omega), Bool.and_false, Bool.false_and])
    rcases hk3 with rfl | hk3
    · go_upto_region 2 with fail
      first | go_quiet (fail) | fail
      go_wp2
      go_ret
      exact ⟨by rw [HH.out]; rfl, below_drewN' HB.out _⟩
    · have t1 : decide ((k : Int) < 1) = false := decide_eq_false (by omega)
      have t2 : decide ((8 : Int) < (k : Int)) = true := decide_eq_true (by omega)
      go_upto_region 2 with fail
      first | go_quiet (fail) | fail
      go_wp2
      go_ret
      exact ⟨by rw [HH.out]; rfl, below_drewN' HB.out _⟩
def deedE (V na : Int) (d : Nat) (k : Nat) (N cmp : Int) (l : List Ex) : Bool := headD V na k N cmp l.length && l.all (mayE V na d)
theorem fdeed_any {k : Nat} {l : List Ex} (he : ExsAt w d A c l) :
  Calls Tryz.prog 30 #[.agg #[.int .i64 V, .slice Aa na ca, g2, g3, g4, g5], .agg #[.int .u8 k, .int .i64 N, .int .u8 cmp, .slice A l.length c]] w fun e w' =>
   e = .returned (.bool (deedE V na d k N cmp l)) ∧ Below w.heap.size w w' := by
 have h := fdeed1 (w := w) (na := na) (ca := ca) (L := l.length) (c := c) (V := V) (N := N) (cmp := cmp) (k := k) (Aa := Aa) (A := A) (g2 := g2) (g3 := g3) (g4 := g4) (g5 := g5) (R := (List.range l.length).any fun j => !((l[j]?).map (mayE V na d)).getD false) fun W b7 bg bf hW hg hf h7 => by
  cases d with
  | zero =>
    obtain ⟨e0, hc⟩ := he
    have := scontains_expr (w := W) (A := A) (c := c) (n := l.length) (x := fun _ _ => undef) (caps := #[.pointer (some ⟨b7, 0, none⟩)]) (f := fun _ => false) goes52 ⟨by rw [e0]; simp, hc, fun h => absurd h (by rw [e0]; simp)⟩ (fun j hj => absurd hj (by rw [e0]; simp))
    rw [e0] at this ⊢
    exact this
  | succ d =>
    obtain ⟨AA, CC, hr, hch⟩ := he
    exact scontains_expr (caps := #[.pointer (some ⟨b7, 0, none⟩)]) goes52 (hr.below hW) fun j hj X hX => by
     rw [exC_at hj]
     have hl : (l[j]?.map (mayE V na (d + 1))).getD false = mayE V na (d + 1) l[j] := by rw [List.getElem?_eq_getElem hj]; rfl
     rw [hl]
     exact fnot_any goes84 (.inr rfl) (keepC hX h7) fun Y hY => fmay_any (((hch j hj).below hW).below hX |>.below hY) ((hg.below hX).below hY) (keepC hY (keepC hX hf))
 have e1 : deedE V na d k N cmp l = (headD V na k N cmp l.length && !((List.range l.length).any fun j => !((l[j]?).map (mayE V na d)).getD false)) := by
  rw [deedE, not_any_not (f := mayE V na d)]
  intro j hj
  rw [List.getElem?_eq_getElem hj]
  rfl
 rw [e1]
 exact h
structure Ed where
 f : Int
 t : Int
 k : Nat
 n : Int
 cmp : Int
 l : List Ex
 p : Int
def edV (e : Ed) (A : Option Addr) (c : Nat) : Value := .agg #[.int .i64 e.f, .int .i64 e.t, .int .u8 e.k, .int .i64 e.n, .int .u8 e.cmp, .slice A e.l.length c, .int .i64 e.p]
def edC (l : List Ed) (AA : Nat → Option Addr) (CC : Nat → Nat) (j i : Nat) : Value :=
 match l[j]? with
 | some e => if i = 0 then .int .i64 e.f else if i = 1 then .int .i64 e.t else if i = 2 then .int .u8 e.k else if i = 3 then .int .i64 e.n else if i = 4 then .int .u8 e.cmp else if i = 5 then .slice (AA j) e.l.length (CC j) else .int .i64 e.p
 | none => undef
def EdsAt (w : World) (d : Nat) (A : Option Addr) (c : Nat) (l : List Ed) (AA : Nat → Option Addr) (CC : Nat → Nat) : Prop := RowK 7 w A c l.length (edC l AA CC) ∧ ∀ j (hj : j < l.length), ExsAt w d (AA j) (CC j) l[j].l
theorem EdsAt.below {w' : World} {l : List Ed} {AA : Nat → Option Addr} {CC : Nat → Nat} (h : EdsAt w d A c l AA CC) (hb : Below w.heap.size w w') : EdsAt w' d A c l AA CC := ⟨h.1.below hb, fun j hj => (h.2 j hj).below hb⟩
theorem edC_at {l : List Ed} {AA : Nat → Option Addr} {CC : Nat → Nat} {j : Nat} (hj : j < l.length) : Value.agg #[edC l AA CC j 0, edC l AA CC j 1, edC l AA CC j 2, edC l AA CC j 3, edC l AA CC j 4, edC l AA CC j 5, edC l AA CC j 6] = edV l[j] (AA j) (CC j) := by
 simp [edC, edV, List.getElem?_eq_getElem hj]
def edgeE (V na nodes : Int) (d : Nat) (e : Ed) : Bool := (decide (0 ≤ e.f) && decide (e.f < nodes)) && (decide (0 ≤ e.t) && decide (e.t < nodes)) && deedE V na d e.k e.n e.cmp e.l
theorem fcheck2_any {e : Ed} (he : ExsAt w d A c e.l) (hg : Box6 w bg (.int .i64 V) (.slice Aa na ca) (.int .i64 nodes) g3 g4 g5) :
  Calls Tryz.prog 29 #[edV e A c, .pointer (some ⟨bg, 0, none⟩)] w fun r w' => r = .returned (.bool (!edgeE V na nodes d e)) ∧ Below w.heap.size w w' := by
 obtain ⟨f, t, k, n, cmp, l, p⟩ := e
 have hal : Below w.heap.size w (w.alloc (.cells #[.int .i64 f, .int .i64 t, .int .u8 k, .int .i64 n, .int .u8 cmp, .slice A l.length c, .int .i64 p] 60)) := (Below.refl _ _).alloc (Nat.le_refl _) _
 have hdd := fun W (h : Below w.heap.size w W) => fdeed_any (w := W) (na := na) (ca := ca) (V := V) (N := n) (cmp := cmp) (k := k) (Aa := Aa) (g2 := .int .i64 nodes) (g3 := g3) (g4 := g4) (g5 := g5) (he.below h)
 obtain ⟨b1, hb1⟩ : ∃ b, (decide (0 ≤ f) && decide (f < nodes)) = b := ⟨_, rfl⟩
 obtain ⟨b2, hb2⟩ : ∃ b, (decide (0 ≤ t) && decide (t < nodes)) = b := ⟨_, rfl⟩
 obtain ⟨H1, H2⟩ := hid2 (fun W : World => hb1 ▸ fbelow_any (w := W) f nodes) (fun W : World => hb2 ▸ fbelow_any (w := W) t nodes)
 have e1 : edgeE V na nodes d ⟨f, t, k, n, cmp, l, p⟩ = (b1 && b2 && deedE V na d k n cmp l) := by rw [edgeE, hb1, hb2]
 rw [e1]
 obtain ⟨HD, HB⟩ := hid2 hdd hal
 have z0 := (hg.below hal).all
 show Calls Tryz.prog 29 #[.agg #[.int .i64 f, .int .i64 t, .int .u8 k, .int .i64 n, .int .u8 cmp, .slice A l.length c, .int .i64 p], .pointer (some ⟨bg, 0, none⟩)] w _
 clear hal hdd hb1 hb2 he hg e1
 cases b1 with
 | false =>
   go_enter Tryz.func29, Tryz.ntmps29
   go_wp2_with fail
   refine (H1.out _).mono ?_
   rintro e w1 ⟨rfl, rfl⟩
   go_wp2
   go_ret
   exact ⟨rfl, HB.out⟩
 | true =>
   cases b2 with
   | false =>
     go_enter Tryz.func29, Tryz.ntmps29
     go_wp2_with fail
     refine (H1.out _).mono ?_
     rintro e w1 ⟨rfl, rfl⟩
     go_wp2_with fail
     refine (H2.out _).mono ?_
     rintro e w1 ⟨rfl, rfl⟩
     go_wp2
     go_ret
     exact ⟨rfl, HB.out⟩
   | true =>
     go_enter Tryz.func29, Tryz.ntmps29
     go_wp2_with fail
     refine (H1.out _).mono ?_
     rintro e w1 ⟨rfl, rfl⟩
     go_wp2_with fail
     refine (H2.out _).mono ?_
     rintro e w1 ⟨rfl, rfl⟩
     go_wp2_with fail
     refine (HD.out _ HB.out).mono ?_
     rintro e w1 ⟨rfl, hc⟩
     have hb := from_ HB.out hc
     go_wp2
     go_ret
     exact ⟨rfl, hb⟩
theorem goes29 : Goes 29 := goes_of Tryz.func29 rfl rfl
theorem fedges_any {es : List Ed} {AA : Nat → Option Addr} {CC : Nat → Nat} (he : EdsAt w d A c es AA CC) (hg : Box6 w bg (.int .i64 V) (.slice Aa na ca) (.int .i64 nodes) g3 g4 g5) :
  Calls Tryz.prog 28 #[.slice A es.length c, .func (.func 29) #[] #[.pointer (some ⟨bg, 0, none⟩)]] w fun r w' => r = .returned (.bool (!es.all (edgeE V na nodes d))) ∧ Below w.heap.size w w' := by
 have h := scontains_edge (caps := #[.pointer (some ⟨bg, 0, none⟩)]) (f := fun j => !((es[j]?).map (edgeE V na nodes d)).getD false) goes29 he.1 fun j hj W hW => by
  rw [edC_at hj]
  have hl : (es[j]?.map (edgeE V na nodes d)).getD false = edgeE V na nodes d es[j] := by rw [List.getElem?_eq_getElem hj]; rfl
  rw [hl]
  exact fcheck2_any ((he.2 j hj).below hW) (hg.below hW)
 have e1 : (!es.all (edgeE V na nodes d)) = (List.range es.length).any fun j => !((es[j]?).map (edgeE V na nodes d)).getD false := by
  have h1 : es.all (edgeE V na nodes d) = !((List.range es.length).any fun j => !((es[j]?).map (edgeE V na nodes d)).getD false) := by
   rw [Bool.eq_iff_iff]
   simp only [Bool.not_eq_true', List.all_eq_true]
   constructor
   · intro h
     cases h2 : (List.range es.length).any fun j => !((es[j]?).map (edgeE V na nodes d)).getD false with
     | false => rfl
     | true =>
       obtain ⟨j, hj, e⟩ := any_lt.1 h2
       rw [List.getElem?_eq_getElem hj] at e
       have := h _ (List.getElem_mem hj)
       simp [this] at e
   · intro h e hm
     obtain ⟨j, hj, rfl⟩ := List.getElem_of_mem hm
     cases h2 : edgeE V na nodes d es[j] with
     | true => rfl
     | false => exact absurd ((any_lt (f := fun j => !((es[j]?).map (edgeE V na nodes d)).getD false)).2 ⟨j, hj, by rw [List.getElem?_eq_getElem hj]; simp [h2]⟩) (by rw [h]; simp)
  rw [h1, Bool.not_not]
 rw [e1]
 exact h
end Go.Proofs.YtcheajjjdbllfaaGreat
