/- flow.deed: whether a deed may be. No conditions. -/
import Derived.BigQuiet
import Derived.Laws.EntriesVeiled
import Derived.WideLaws
import Derived.Test.YtdncgncijbnjpaaGreatRLnC
set_option linter.unusedVariables false
set_option linter.unusedSimpArgs false
set_option maxRecDepth 100000
set_option maxHeartbeats 40000000
namespace Go.Proofs.YtdncgncijbnjpaaGreat
open Go.Lib (hid)
open Go.RowKit
variable {A Aa : Option Addr} {N V cmp nodes : Int} {bg c ca d na : Nat} {g2 g3 g4 g5 : Value}
def dargs : List Int := [0, 0, 0, 1, 2, 0, 2, 0, 0]
def dmost (V na : Int) : List Int := [0, 1, 1, V, na, V, 1, 1, 1]
def Nine (W : World) (g : Nat) (l : List Int) : Prop := ∀ i (h : i < l.length), W.cell? ⟨g, i, none⟩ = some (.int .i64 l[i])
theorem nine_of {W : World} {g : Nat} {a b c d e f x y z : Int} (h0 : W.cell? ⟨g, 0, none⟩ = some (.int .i64 a)) (h1 : W.cell? ⟨g, 1, none⟩ = some (.int .i64 b)) (h2 : W.cell? ⟨g, 2, none⟩ = some (.int .i64 c)) (h3 : W.cell? ⟨g, 3, none⟩ = some (.int .i64 d)) (h4 : W.cell? ⟨g, 4, none⟩ = some (.int .i64 e)) (h5 : W.cell? ⟨g, 5, none⟩ = some (.int .i64 f)) (h6 : W.cell? ⟨g, 6, none⟩ = some (.int .i64 x)) (h7 : W.cell? ⟨g, 7, none⟩ = some (.int .i64 y)) (h8 : W.cell? ⟨g, 8, none⟩ = some (.int .i64 z)) : Nine W g [a, b, c, d, e, f, x, y, z] := fun i hi => by
 rcases i with _ | _ | _ | _ | _ | _ | _ | _ | _ | i
 · exact h0
 · exact h1
 · exact h2
 · exact h3
 · exact h4
 · exact h5
 · exact h6
 · exact h7
 · exact h8
 · simp at hi
   omega
theorem fexpr_any {w : World} :
  Calls Tryz.prog 114 #[.agg #[.int .i64 V, .slice Aa na ca, g2, g3, g4, g5]] w fun e w' => ∃ bg bf : Nat, e = .returned (.func (.func 164) #[] #[.pointer (some ⟨bg, 0, none⟩), .pointer (some ⟨bf, 0, none⟩)]) ∧ Box6 w' bg (.int .i64 V) (.slice Aa na ca) g2 g3 g4 g5 ∧ w'.cell? ⟨bf, 0, none⟩ = some (.func (.func 164) #[] #[.pointer (some ⟨bg, 0, none⟩), .pointer (some ⟨bf, 0, none⟩)]) ∧ Below w.heap.size w w' := by
 have C := Box6.new w (.int .i64 V) (.slice Aa na ca) g2 g3 g4 g5 25
 have D : Below w.heap.size w (w.alloc (.cells #[.int .i64 V, .slice Aa na ca, g2, g3, g4, g5] 25)) := (Below.refl _ _).alloc (Nat.le_refl _) _
 have B := hid (And.intro C D)
 clear C D
 go_enter Tryz.func114, Tryz.ntmps114
 go_wp2
 go_ret
 exact ⟨_, _, rfl, B.out.1.alloc _, cell_newest (by simp) rfl, B.out.2.alloc B.out.2.size _⟩
def cmpD (k : Nat) (cmp : Int) : Bool := if k = 6 then decide (3 ≤ cmp) && decide (cmp ≤ 8) else cmp == 0
def headD (V na : Int) (k : Nat) (N cmp L : Int) : Bool := decide (1 ≤ k) && decide (k ≤ 8) && (decide (0 ≤ N) && decide (N < ((dmost V na)[k]?).getD 0)) && decide (L = (dargs[k]?).getD 0) && cmpD k cmp
theorem fdeed1 {w : World} {L : Nat} {k : Nat} {R : Bool} 
  (hC : ∀ W b7 bg bf, Below w.heap.size w W → Box6 W bg (.int .i64 V) (.slice Aa na ca) g2 g3 g4 g5 → W.cell? ⟨bf, 0, none⟩ = some (.func (.func 164) #[] #[.pointer (some ⟨bg, 0, none⟩), .pointer (some ⟨bf, 0, none⟩)]) → W.cell? ⟨b7, 0, none⟩ = some (.func (.func 164) #[] #[.pointer (some ⟨bg, 0, none⟩), .pointer (some ⟨bf, 0, none⟩)]) →
   Calls Tryz.prog 90 #[.slice A L c, .func (.func 115) #[] #[.pointer (some ⟨b7, 0, none⟩)]] W fun e w' => e = .returned (.bool R) ∧ Below W.heap.size W w') :
  Calls Tryz.prog 71 #[.agg #[.int .i64 V, .slice Aa na ca, g2, g3, g4, g5], .agg #[.int .u8 k, .int .i64 N, .int .u8 cmp, .slice A L c]] w fun e w' =>
   e = .returned (.bool (headD V na k N cmp L && !R)) ∧ Below w.heap.size w w' := by
 have q : Below w.heap.size w (w.alloc (.cells #[.int .i64 V, .slice Aa na ca, g2, g3, g4, g5] 25)) := (Below.refl _ _).alloc (Nat.le_refl _) _
 have Kb := q.alloc q.size (.cells #[.int .u8 k, .int .i64 N, .int .u8 cmp, .slice A L c] 71)
 have hG : Box6 _ _ _ _ _ _ _ _ := (Box6.new w (.int .i64 V) (.slice Aa na ca) g2 g3 g4 g5 25).alloc (.cells #[.int .u8 k, .int .i64 N, .int .u8 cmp, .slice A L c] 71)
 have S : ((w.alloc (.cells #[.int .i64 V, .slice Aa na ca, g2, g3, g4, g5] 25)).alloc (.cells #[.int .u8 k, .int .i64 N, .int .u8 cmp, .slice A L c] 71)).cell? ⟨w.heap.size + 1, 0, none⟩ = some (.int .u8 k) := cell_newest (by simp) rfl
 have T : ((w.alloc (.cells #[.int .i64 V, .slice Aa na ca, g2, g3, g4, g5] 25)).alloc (.cells #[.int .u8 k, .int .i64 N, .int .u8 cmp, .slice A L c] 71)).cell? ⟨w.heap.size + 1, 1, none⟩ = some (.int .i64 N) := cell_newest (by simp) rfl
 have U : ((w.alloc (.cells #[.int .i64 V, .slice Aa na ca, g2, g3, g4, g5] 25)).alloc (.cells #[.int .u8 k, .int .i64 N, .int .u8 cmp, .slice A L c] 71)).cell? ⟨w.heap.size + 1, 2, none⟩ = some (.int .u8 cmp) := cell_newest (by simp) rfl
 have E : ((w.alloc (.cells #[.int .i64 V, .slice Aa na ca, g2, g3, g4, g5] 25)).alloc (.cells #[.int .u8 k, .int .i64 N, .int .u8 cmp, .slice A L c] 71)).cell? ⟨w.heap.size + 1, 3, none⟩ = some (.slice A L c) := cell_newest (by simp) rfl
 have Kf : w.heap.size < ((w.alloc (.cells #[.int .i64 V, .slice Aa na ca, g2, g3, g4, g5] 25)).alloc (.cells #[.int .u8 k, .int .i64 N, .int .u8 cmp, .slice A L c] 71)).heap.size := by simp; omega
 obtain ⟨C, g, J, i⟩ := hid4 Kb hC (fun (a b : Int) (W : World) => fbelow_any (w := W) a b) (fun (W : World) => fexpr_any (w := W) (na := na) (ca := ca) (V := V) (Aa := Aa) (g2 := g2) (g3 := g3) (g4 := g4) (g5 := g5))
 clear Kb q hC
 go_enter Tryz.func71, Tryz.ntmps71
 go_upto_region 2 with fail
 generalize hW1 : ((w.alloc (.cells #[.int .i64 V, .slice Aa na ca, g2, g3, g4, g5] 25)).alloc (.cells #[.int .u8 k, .int .i64 N, .int .u8 cmp, .slice A L c] 71)) = W1 at *
 clear hW1
 have X := hid hG
 obtain ⟨K, v, _, _, _, _, _, _, _, _, _, _, _⟩ := hG
 go_cut [5, 6] (fun s5 s6 wx => ∃ j m : Nat, s5 = .pointer (some ⟨j, 0, none⟩) ∧ s6 = .pointer (some ⟨m, 0, none⟩) ∧ Nine wx j dargs ∧ Nine wx m (dmost V na) ∧ Below W1.heap.size W1 wx)
 case first =>
  go_region
  all_goals
   go_wp2_with fail
   go_meet
   refine ⟨_, _, rfl, rfl, ?_, ?_, (((Below.refl W1.heap.size W1).alloc (Nat.le_refl _) _).alloc (by simp) _).drew⟩
   · exact nine_of (by simp) (by simp) (by simp) (by simp) (by simp) (by simp) (by simp) (by simp) (by simp)
   · exact nine_of (by simp) (by simp) (by simp) (by simp) (by simp) (by simp) (by simp) (by simp) (by simp)
 case rest =>
  obtain ⟨j, m, rfl, rfl, x, y, B⟩ := hcut
  replace S := keepC B S
  replace T := keepC B T
  replace U := keepC B U
  replace E := keepC B E
  replace X := hid (X.out.below B)
  replace C := hid (from_ C.out B)
  clear K v B
  obtain ⟨o, Ke⟩ : ∃ W, W = wc := ⟨_, rfl⟩
  subst Ke
  by_cases hk : 1 ≤ k ∧ k ≤ 8
  · obtain ⟨M, z⟩ : ∃ M, ((dmost V na)[k]?).getD 0 = M := ⟨_, rfl⟩
    obtain ⟨Q, hQ⟩ : ∃ Q, (dargs[k]?).getD 0 = Q := ⟨_, rfl⟩
    have m6 : o.cell? ⟨m, k, none⟩ = some (.int .i64 M) := by
     have h : k < (dmost V na).length := by simp [dmost]; omega
     rw [y k h, ← z, List.getElem?_eq_getElem h]
     rfl
    have m5 : o.cell? ⟨j, k, none⟩ = some (.int .i64 Q) := by
     have h : k < dargs.length := by simp [dargs]; omega
     rw [x k h, ← hQ, List.getElem?_eq_getElem h]
     rfl
    have Kc : (1 : Int) ≤ (k : Int) := by omega
    have Kd : (k : Int) ≤ 8 := by omega
    have t1 : decide ((k : Int) < 1) = false := decide_eq_false (by omega)
    have t2 : decide ((8 : Int) < (k : Int)) = false := decide_eq_false (by omega)
    have Y : (0 : Int) ≤ (k : Int) := by omega
    have Kg : (k : Int) < 9 := by omega
    obtain ⟨bw, Ka⟩ : ∃ b, (decide (0 ≤ N) && decide (N < M)) = b := ⟨_, rfl⟩
    have hH : headD V na k N cmp L = (bw && decide ((L : Int) = Q) && cmpD k cmp) := by
     rw [headD, z, hQ, Ka, decide_eq_true hk.1, decide_eq_true hk.2, Bool.true_and, Bool.true_and]
    obtain ⟨F, HK⟩ := hid2 hH hk
    replace J := hid (fun (W : World) => Ka ▸ J.out N M W)
    clear x y z hQ hH hk Ka Kc Kd
    cases bw with
    | false =>
      go_upto_region 2 with fail
      first | go_quiet ((go_at_call 66; exact Calls.quiet_of_same ((J.out _).mono fun e w' h => ⟨h.1, h.2.symm⟩))) | fail
      go_wp2
      go_ret
      exact ⟨by rw [F.out]; rfl, below_drewN' C.out _⟩
    | true =>
      by_cases hL : (L : Int) = Q
      · have t3 : ((L : Int) != Q) = false := by simp [hL]
        have Z := hid hL
        clear hL
        go_upto_region 2 with fail
        first | go_quiet ((go_at_call 66; exact Calls.quiet_of_same ((J.out _).mono fun e w' h => ⟨h.1, h.2.symm⟩))) | fail
        by_cases h6 : k = 6
        · subst h6
          by_cases q1 : cmp < 3
          · have d : decide (cmp < 3) = true := decide_eq_true q1
            have G := hid (show cmpD 6 cmp = false by simp [cmpD]; omega)
            clear q1
            go_wp2
            go_ret
            exact ⟨by rw [F.out, show cmpD _ cmp = false from G.out]; simp, below_drewN' C.out _⟩
          · by_cases q2 : 8 < cmp
            · have d : decide (cmp < 3) = false := decide_eq_false q1
              have t5 : decide (8 < cmp) = true := decide_eq_true q2
              have G := hid (show cmpD 6 cmp = false by simp [cmpD]; omega)
              clear q1 q2
              go_wp2
              go_ret
              exact ⟨by rw [F.out, show cmpD _ cmp = false from G.out]; simp, below_drewN' C.out _⟩
            · have d : decide (cmp < 3) = false := decide_eq_false q1
              have t5 : decide (8 < cmp) = false := decide_eq_false q2
              have G := hid (show cmpD 6 cmp = true by simp [cmpD]; omega)
              clear q1 q2
              obtain ⟨K, v, z2, z3, z4, z5, _, _, _, _, _, _, _⟩ := id X.out
              go_wp2_with fail
              refine (i.out _).mono ?_
              rintro e H ⟨bg, bf, rfl, O, P, B⟩
              replace E := keepC B (show (o.drewN _).cell? _ = _ from E)
              have I := hid (from_ (below_drewN' C.out _) B)
              have D : Below H.heap.size H (H.alloc (.cells #[.func (.func 164) #[] #[.pointer (some ⟨bg, 0, none⟩), .pointer (some ⟨bf, 0, none⟩)]] 101)) := (Below.refl _ _).alloc (Nat.le_refl _) _
              have r := hid (g.out _ H.heap.size bg bf (from_ I.out D) (O.below D) (keepC D P) (cell_newest rfl rfl))
              replace E := keepC D E
              have s := hid (from_ I.out D)
              clear K v z2 z3 z4 z5 S T U O P B D I C i g
              go_wp2_with fail
              refine r.out.mono ?_
              rintro e w4 ⟨rfl, B⟩
              have u := from_ s.out B
              go_wp2
              go_ret
              exact ⟨by rw [F.out, decide_eq_true Z.out, show cmpD _ cmp = true from G.out]; rfl, u⟩
        · have t6 : ((k : Int) == 6) = false := beq_eq_false_iff_ne.2 (by omega)
          have t7 : ((k : Int) != 6) = true := bne_iff_ne.2 (by omega)
          by_cases q1 : cmp = 0
          · have d : (cmp != 0) = false := by rw [q1]; rfl
            have G := hid (show cmpD k cmp = true by rw [cmpD, if_neg h6, q1]; rfl)
            clear q1 h6
            have K := X.out.all
            go_wp2_with fail
            refine (i.out _).mono ?_
            rintro e H ⟨bg, bf, rfl, O, P, B⟩
            replace E := keepC B (show (o.drewN _).cell? _ = _ from E)
            have I := hid (from_ (below_drewN' C.out _) B)
            have D : Below H.heap.size H (H.alloc (.cells #[.func (.func 164) #[] #[.pointer (some ⟨bg, 0, none⟩), .pointer (some ⟨bf, 0, none⟩)]] 101)) := (Below.refl _ _).alloc (Nat.le_refl _) _
            have r := hid (g.out _ H.heap.size bg bf (from_ I.out D) (O.below D) (keepC D P) (cell_newest rfl rfl))
            replace E := keepC D E
            have s := hid (from_ I.out D)
            clear K S T U O P B D I C i g
            go_wp2_with fail
            refine r.out.mono ?_
            rintro e w4 ⟨rfl, B⟩
            have u := from_ s.out B
            go_wp2
            go_ret
            exact ⟨by rw [F.out, decide_eq_true Z.out, show cmpD _ cmp = true from G.out]; rfl, u⟩
          · have d : (cmp != 0) = true := bne_iff_ne.2 q1
            have G := hid (show cmpD k cmp = false by rw [cmpD, if_neg h6]; exact beq_eq_false_iff_ne.2 q1)
            clear q1 h6
            go_wp2
            go_ret
            exact ⟨by rw [F.out, show cmpD _ cmp = false from G.out]; simp, below_drewN' C.out _⟩
      · have t3 : ((L : Int) != Q) = true := bne_iff_ne.2 hL
        have Z := hid hL
        clear hL
        go_upto_region 2 with fail
        first | go_quiet ((go_at_call 66; exact Calls.quiet_of_same ((J.out _).mono fun e w' h => ⟨h.1, h.2.symm⟩))) | fail
        go_wp2
        go_ret
        exact ⟨by rw [F.out, decide_eq_false Z.out]; rfl, below_drewN' C.out _⟩
  · have Y : k = 0 ∨ 9 ≤ k := by omega
    clear x y
    have F : Hid (headD V na k N cmp L = false) := hid (by
     rcases Y with rfl | h
     · simp [headD]
     · simp only [headD, decide_eq_false (show ¬ k ≤ 8 by omega), Bool.and_false, Bool.false_and])
    rcases Y with rfl | Y
    · go_upto_region 2 with fail
      first | go_quiet (fail) | fail
      go_wp2
      go_ret
      exact ⟨by rw [F.out]; rfl, below_drewN' C.out _⟩
    · have t1 : decide ((k : Int) < 1) = false := decide_eq_false (by omega)
      have t2 : decide ((8 : Int) < (k : Int)) = true := decide_eq_true (by omega)
      go_upto_region 2 with fail
      first | go_quiet (fail) | fail
      go_wp2
      go_ret
      exact ⟨by rw [F.out]; rfl, below_drewN' C.out _⟩
def deedE (V na : Int) (d : Nat) (k : Nat) (N cmp : Int) (l : List Ex) : Bool := headD V na k N cmp l.length && l.all (mayE V na d)
theorem fdeed_any {w : World} {k : Nat} {l : List Ex} (he : ExsAt w d A c l) :
  Calls Tryz.prog 71 #[.agg #[.int .i64 V, .slice Aa na ca, g2, g3, g4, g5], .agg #[.int .u8 k, .int .i64 N, .int .u8 cmp, .slice A l.length c]] w fun e w' =>
   e = .returned (.bool (deedE V na d k N cmp l)) ∧ Below w.heap.size w w' := by
 have h := fdeed1 (w := w) (na := na) (ca := ca) (L := l.length) (c := c) (V := V) (N := N) (cmp := cmp) (k := k) (Aa := Aa) (A := A) (g2 := g2) (g3 := g3) (g4 := g4) (g5 := g5) (R := (List.range l.length).any fun j => !((l[j]?).map (mayE V na d)).getD false) fun W b7 bg bf hW hg hf h7 => by
  cases d with
  | zero =>
    obtain ⟨B, E⟩ := he
    have := scontains_expr (w := W) (A := A) (c := c) (n := l.length) (x := fun _ _ => undef) (caps := #[.pointer (some ⟨b7, 0, none⟩)]) (f := fun _ => false) goes52 ⟨by rw [B]; simp, E, fun h => absurd h (by rw [B]; simp)⟩ (fun j hj => absurd hj (by rw [B]; simp))
    rw [B] at this ⊢
    exact this
  | succ d =>
    obtain ⟨H, I, F, G⟩ := he
    exact scontains_expr (caps := #[.pointer (some ⟨b7, 0, none⟩)]) goes52 (F.below hW) fun j hj X hX => by
     rw [exC_at hj]
     have C : (l[j]?.map (mayE V na (d + 1))).getD false = mayE V na (d + 1) l[j] := by rw [List.getElem?_eq_getElem hj]; rfl
     rw [C]
     exact fnot_any goes84 (.inr rfl) (keepC hX h7) fun Y hY => fmay_any (((G j hj).below hW).below hX |>.below hY) ((hg.below hX).below hY) (keepC hY (keepC hX hf))
 have D : deedE V na d k N cmp l = (headD V na k N cmp l.length && !((List.range l.length).any fun j => !((l[j]?).map (mayE V na d)).getD false)) := by
  rw [deedE, not_any_not (f := mayE V na d)]
  intro j hj
  rw [List.getElem?_eq_getElem hj]
  rfl
 rw [D]
 exact h
structure Ed where
 f : Int
 t : Int
 k : Nat
 n : Int
 cmp : Int
 l : List Ex
 p : Int
def edV (e : Ed) (A : Option Addr) (c : Nat) : Value := .agg #[.int .i64 e.f, .int .i64 e.t, .int .u8 e.k, .int .i64 e.n, .int .u8 e.cmp, .slice A e.l.length c, .int .i64 e.p]
def edC (l : List Ed) (AA : Nat → Option Addr) (CC : Nat → Nat) (j i : Nat) : Value :=
 match l[j]? with
 | some e => if i = 0 then .int .i64 e.f else if i = 1 then .int .i64 e.t else if i = 2 then .int .u8 e.k else if i = 3 then .int .i64 e.n else if i = 4 then .int .u8 e.cmp else if i = 5 then .slice (AA j) e.l.length (CC j) else .int .i64 e.p
 | none => undef
def EdsAt (w : World) (d : Nat) (A : Option Addr) (c : Nat) (l : List Ed) (AA : Nat → Option Addr) (CC : Nat → Nat) : Prop := RowK 7 w A c l.length (edC l AA CC) ∧ ∀ j (hj : j < l.length), ExsAt w d (AA j) (CC j) l[j].l
theorem EdsAt.below {w w' : World} {l : List Ed} {AA : Nat → Option Addr} {CC : Nat → Nat} (h : EdsAt w d A c l AA CC) (hb : Below w.heap.size w w') : EdsAt w' d A c l AA CC := ⟨h.1.below hb, fun j hj => (h.2 j hj).below hb⟩
theorem edC_at {l : List Ed} {AA : Nat → Option Addr} {CC : Nat → Nat} {j : Nat} (hj : j < l.length) : Value.agg #[edC l AA CC j 0, edC l AA CC j 1, edC l AA CC j 2, edC l AA CC j 3, edC l AA CC j 4, edC l AA CC j 5, edC l AA CC j 6] = edV l[j] (AA j) (CC j) := by
 simp [edC, edV, List.getElem?_eq_getElem hj]
def edgeE (V na nodes : Int) (d : Nat) (e : Ed) : Bool := (decide (0 ≤ e.f) && decide (e.f < nodes)) && (decide (0 ≤ e.t) && decide (e.t < nodes)) && deedE V na d e.k e.n e.cmp e.l
theorem fcheck2_any {w : World} {e : Ed} (he : ExsAt w d A c e.l) (hg : Box6 w bg (.int .i64 V) (.slice Aa na ca) (.int .i64 nodes) g3 g4 g5) :
  Calls Tryz.prog 70 #[edV e A c, .pointer (some ⟨bg, 0, none⟩)] w fun r w' => r = .returned (.bool (!edgeE V na nodes d e)) ∧ Below w.heap.size w w' := by
 obtain ⟨f, t, k, n, cmp, l, p⟩ := e
 have D : Below w.heap.size w (w.alloc (.cells #[.int .i64 f, .int .i64 t, .int .u8 k, .int .i64 n, .int .u8 cmp, .slice A l.length c, .int .i64 p] 73)) := (Below.refl _ _).alloc (Nat.le_refl _) _
 have H := fun W (h : Below w.heap.size w W) => fdeed_any (w := W) (na := na) (ca := ca) (V := V) (N := n) (cmp := cmp) (k := k) (Aa := Aa) (g2 := .int .i64 nodes) (g3 := g3) (g4 := g4) (g5 := g5) (he.below h)
 obtain ⟨J, E⟩ : ∃ b, (decide (0 ≤ f) && decide (f < nodes)) = b := ⟨_, rfl⟩
 obtain ⟨K, F⟩ : ∃ b, (decide (0 ≤ t) && decide (t < nodes)) = b := ⟨_, rfl⟩
 obtain ⟨G, L⟩ := hid2 (fun W : World => E ▸ fbelow_any (w := W) f nodes) (fun W : World => F ▸ fbelow_any (w := W) t nodes)
 have I : edgeE V na nodes d ⟨f, t, k, n, cmp, l, p⟩ = (J && K && deedE V na d k n cmp l) := by rw [edgeE, E, F]
 rw [I]
 obtain ⟨O, C⟩ := hid2 H D
 have Q := (hg.below D).all
 show Calls Tryz.prog 70 #[.agg #[.int .i64 f, .int .i64 t, .int .u8 k, .int .i64 n, .int .u8 cmp, .slice A l.length c, .int .i64 p], .pointer (some ⟨bg, 0, none⟩)] w _
 clear D H E F he hg I
 cases J with
 | false =>
   go_enter Tryz.func70, Tryz.ntmps70
   go_wp2_with fail
   refine (G.out _).mono ?_
   rintro e B ⟨rfl, rfl⟩
   go_wp2
   go_ret
   exact ⟨rfl, C.out⟩
 | true =>
   cases K with
   | false =>
     go_enter Tryz.func70, Tryz.ntmps70
     go_wp2_with fail
     refine (G.out _).mono ?_
     rintro e B ⟨rfl, rfl⟩
     go_wp2_with fail
     refine (L.out _).mono ?_
     rintro e B ⟨rfl, rfl⟩
     go_wp2
     go_ret
     exact ⟨rfl, C.out⟩
   | true =>
     go_enter Tryz.func70, Tryz.ntmps70
     go_wp2_with fail
     refine (G.out _).mono ?_
     rintro e B ⟨rfl, rfl⟩
     go_wp2_with fail
     refine (L.out _).mono ?_
     rintro e B ⟨rfl, rfl⟩
     go_wp2_with fail
     refine (O.out _ C.out).mono ?_
     rintro e B ⟨rfl, P⟩
     have M := from_ C.out P
     go_wp2
     go_ret
     exact ⟨rfl, M⟩
theorem goes29 : Goes 70 := goes_of Tryz.func70 rfl rfl
theorem goes27 : Goes 68 := goes_of Tryz.func68 rfl rfl
theorem fedges_any {w : World} {es : List Ed} {AA : Nat → Option Addr} {CC : Nat → Nat} (he : EdsAt w d A c es AA CC) (hg : Box6 w bg (.int .i64 V) (.slice Aa na ca) (.int .i64 nodes) g3 g4 g5) :
  Calls Tryz.prog 69 #[.slice A es.length c, .func (.func 70) #[] #[.pointer (some ⟨bg, 0, none⟩)]] w fun r w' => r = .returned (.bool (!es.all (edgeE V na nodes d))) ∧ Below w.heap.size w w' := by
 have h := scontains_edge (caps := #[.pointer (some ⟨bg, 0, none⟩)]) (f := fun j => !((es[j]?).map (edgeE V na nodes d)).getD false) goes29 he.1 fun j B W hW => by
  rw [edC_at B]
  have C : (es[j]?.map (edgeE V na nodes d)).getD false = edgeE V na nodes d es[j] := by rw [List.getElem?_eq_getElem B]; rfl
  rw [C]
  exact fcheck2_any ((he.2 j B).below hW) (hg.below hW)
 have D : (!es.all (edgeE V na nodes d)) = (List.range es.length).any fun j => !((es[j]?).map (edgeE V na nodes d)).getD false := by
  have E : es.all (edgeE V na nodes d) = !((List.range es.length).any fun j => !((es[j]?).map (edgeE V na nodes d)).getD false) := by
   rw [Bool.eq_iff_iff]
   simp only [Bool.not_eq_true', List.all_eq_true]
   constructor
   · intro h
     cases h2 : (List.range es.length).any fun j => !((es[j]?).map (edgeE V na nodes d)).getD false with
     | false => rfl
     | true =>
       obtain ⟨j, B, e⟩ := any_lt.1 h2
       rw [List.getElem?_eq_getElem B] at e
       have := h _ (List.getElem_mem B)
       simp [this] at e
   · intro h e hm
     obtain ⟨j, B, rfl⟩ := List.getElem_of_mem hm
     cases h2 : edgeE V na nodes d es[j] with
     | true => rfl
     | false => exact absurd ((any_lt (f := fun j => !((es[j]?).map (edgeE V na nodes d)).getD false)).2 ⟨j, B, by rw [List.getElem?_eq_getElem B]; simp [h2]⟩) (by rw [h]; simp)
  rw [E, Bool.not_not]
 rw [D]
 exact h
end Go.Proofs.YtdncgncijbnjpaaGreat
