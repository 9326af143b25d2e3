/- slices.Equal of words, whole.Same. No conditions. -/
import Derived.Test.YtdncgncijbnjpaaGreatRWhC
import Derived.Test.YtdncgncijbnjpaaGreatRRefI
import Derived.Test.YtdncgncijbnjpaaGreatRRefE
import Derived.Test.YtdncgncijbnjpaaGreatRWhF
import Derived.Test.YtdncgncijbnjpaaGreatRRefA
set_option linter.unusedVariables false
set_option linter.unusedSimpArgs false
set_option maxRecDepth 100000
set_option maxHeartbeats 40000000
namespace Go.Proofs.YtdncgncijbnjpaaGreat
open Go.Lib (hid)
open Go.RowKit
variable {Y Z : Zone} {a b : Value} {s : Bool}
theorem boxes2 (w : World) (a0 a1 b0 b1 : Value) (t : TypeId) :
  Box ((w.alloc (.cells #[a0, a1] t)).alloc (.cells #[b0, b1] t)) w.heap.size a0 a1 ∧
  Box ((w.alloc (.cells #[a0, a1] t)).alloc (.cells #[b0, b1] t)) (w.heap.size + 1) b0 b1 ∧
  Below w.heap.size w ((w.alloc (.cells #[a0, a1] t)).alloc (.cells #[b0, b1] t)) := by
 have B := (Box.new w a0 a1 t).alloc (.cells #[b0, b1] t)
 have A := Box.new (w.alloc (.cells #[a0, a1] t)) b0 b1 t
 rw [show (w.alloc (.cells #[a0, a1] t)).heap.size = w.heap.size + 1 by simp] at A
 exact ⟨B, A, ((Below.refl _ w).alloc (Nat.le_refl _) _).alloc (by simp) _⟩
theorem own_below {w w' : World} {base : Nat} {e : TypeId} {size : Nat} {v : Value} {n : Nat} {xs : List Value} (h : w.ownsRow base e size v n xs) (hb : Below w.heap.size w w') : w'.ownsRow base e size v n xs := by
 refine ⟨h.1, ?_⟩
 rcases h.2 with h1 | ⟨g, cap, cur, e1, hg, hh, hr⟩
 · exact .inl h1
 · refine .inr ⟨g, cap, cur, e1, hg, ?_, hr⟩
   rw [hb.block g]
   · exact hh
   · by_cases hlt : g < w.heap.size
     · exact hlt
     · rw [Array.getElem?_eq_none (by omega)] at hh
       cases hh
def but (g : Nat) : Zone := ⟨fun b => b ≠ g, False⟩
def Typ (w : World) (B : Nat) (u : Value) : Prop := ∀ a n c, u = .slice (some a) n c → B ≤ a.block ∧ ∃ cs fr, w.heap[a.block]? = some (.cells cs 143 fr)
theorem Typ.apart {w : World} {B g : Nat} {u : Value} {l : List Nat} (h : Typ w B u) (hg : ∃ cs fr, w.heap[g]? = some (.cells cs 35 fr)) (hu : IsU w Z u l) : IsU w (but g) u l := by
 obtain ⟨A, c, rfl, D, E, F, G, H⟩ := hu
 refine ⟨A, c, rfl, D, E, F, G, fun h0 => ?_⟩
 obtain ⟨b, o, e, _, _, I⟩ := H h0
 refine ⟨b, o, e, fun e2 => ?_, fun h => h.elim, I⟩
 obtain ⟨_, cs, fr, C⟩ := h ⟨b, o, none⟩ _ _ (by rw [e])
 obtain ⟨K, L, J⟩ := hg
 subst e2
 rw [J] at C
 injection C with C
 injection C with _ h3
 exact absurd h3 (by decide)
theorem equal_dec {w : World} {la lb : List Nat} (ha : IsU w Z a la) (hb : IsU w Y b lb) :
  Calls Tryz.prog 87 #[a, b] w fun e w' => e = .returned (.bool (decide (la = lb))) ∧ Below w.heap.size w w' := by
 obtain ⟨A, m, rfl, ha⟩ := ha
 obtain ⟨o, q, rfl, hb⟩ := hb
 have X := ha.len
 have c := hb.len
 by_cases hl : la.length = lb.length
 · have L : ((la.length : Int) != (lb.length : Int)) = false := by simp [hl]
   have M := hid hl
   have d : la.length ≤ lb.length := by omega
   have g : lb.length ≤ la.length := by omega
   clear hl
   go_enter Tryz.func87, Tryz.ntmps87
   go_wp2
   go_loopw [13] (fun i wr => ∃ k : Nat, k ≤ la.length ∧ i = .int .i64 k ∧ la.take k = lb.take k ∧ Below w.heap.size w wr) (fun i _ => la.length - (intOf i).toNat)
   case atStart => exact ⟨0, Nat.zero_le _, rfl, by simp, Below.refl _ _⟩
   case round =>
    obtain ⟨k, r, rfl, I, C⟩ := hrel
    have E := hid I
    clear I
    by_cases hlt : k < la.length
    · have F : k < lb.length := by omega
      obtain ⟨P, Q, rfl, _, R, _, J⟩ := ha.open (by omega)
      obtain ⟨S, T, rfl, _, U, _, K⟩ := hb.open (by omega)
      have h := (C.cell (p := ⟨P, Q + k, none⟩) R).trans (J k hlt)
      have j := (C.cell (p := ⟨S, T + k, none⟩) U).trans (K k F)
      have G : la.take (k + 1) = la.take k ++ [la[k]] := by rw [List.take_succ_eq_append_getElem hlt]
      have H : lb.take (k + 1) = lb.take k ++ [lb[k]] := by rw [List.take_succ_eq_append_getElem F]
      obtain ⟨V, W⟩ := hid2 G H
      clear G H J K
      by_cases he : la[k] = lb[k]
      · have N : ((la[k] : Int) != (lb[k] : Int)) = false := by simp [he]
        have O := hid he
        clear he
        go_wp2
        go_quiet (fail)
        go_wp2
        go_roundw
        case rel => exact ⟨k + 1, by omega, by go_num, by rw [V.out, W.out, E.out, O.out], below_drewN' C _⟩
        case measure => simp [intOf]; omega
      · have N : ((la[k] : Int) != (lb[k] : Int)) = true := by simp; omega
        have B : la ≠ lb := fun e => he (by subst e; rfl)
        have D := hid (decide_eq_false B)
        clear he B
        go_wp2
        go_quiet (fail)
        go_wp2
        go_ret
        rw [D.out]
        exact ⟨rfl, below_drewN' C _⟩
    · obtain rfl : k = la.length := by omega
      go_wp2
      go_ret
      have e := E.out
      rw [List.take_length, M.out, List.take_length] at e
      rw [decide_eq_true e]
      exact ⟨rfl, C⟩
 · have L : ((la.length : Int) != (lb.length : Int)) = true := by simp; omega
   have B : la ≠ lb := fun e => hl (by rw [e])
   have D := hid (decide_eq_false B)
   clear hl B
   go_enter Tryz.func87, Tryz.ntmps87
   go_wp2
   go_ret
   rw [D.out]
   exact ⟨rfl, Below.refl _ _⟩
theorem wsame_any {w : World} {t : Bool} {l k : List Nat} (ha : IsI w Z a s l) (hb : IsI w Y b t k) :
  Calls Tryz.prog 42 #[a, b] w fun e w' => e = .returned (.bool (decide (s = t ∧ l = k))) ∧ Below w.heap.size w w' := by
 obtain ⟨_, rfl, A, F, rfl, J⟩ := ha
 obtain ⟨_, rfl, B, G, rfl, K⟩ := hb
 have D : IsU w Z (.slice A l.length F) l := ⟨A, F, rfl, J⟩
 have E : IsU w Y (.slice B k.length G) k := ⟨B, G, rfl, K⟩
 obtain ⟨M, N, C⟩ := boxes2 w (.bool s) (.slice A l.length F) (.bool t) (.slice B k.length G) 35
 obtain ⟨P, Q, _, _, _⟩ := M
 obtain ⟨R, S, _, _, _⟩ := N
 have H := hid C
 clear J K
 by_cases hst : s = t
 · subst hst
   have I := equal_dec (D.below C) (E.below C)
   have e : decide (s = s ∧ l = k) = decide (l = k) := by simp
   rw [e]
   have L := hid I
   clear I D E C
   cases s
   all_goals
    go_enter Tryz.func42, Tryz.ntmps42
    go_wp2_with fail
    refine L.out.mono ?_
    rintro e T ⟨rfl, O⟩
    go_wp2
    go_ret
    exact ⟨rfl, from_ H.out O⟩
 · have e : decide (s = t ∧ l = k) = false := by simp [hst]
   rw [e]
   clear D E C
   rcases (show (s = true ∧ t = false) ∨ (s = false ∧ t = true) by cases s <;> cases t <;> simp_all) with ⟨rfl, rfl⟩ | ⟨rfl, rfl⟩
   all_goals
    go_enter Tryz.func42, Tryz.ntmps42
    go_wp2
    go_ret
    exact ⟨rfl, H.out⟩
def intE (s : Bool) (l : List Nat) : Int := if okI s l = true then (if l.length ≤ 1 ∧ (val l < 9223372036854775808 ∨ (s = true ∧ val l = 9223372036854775808)) then 0 else 4) else 8
def intX (s : Bool) (l : List Nat) : Int := if intE s l = 0 then zof s l else 0
theorem int_bad {l : List Nat} (h : okI s l = false) : intE s l = 8 ∧ intX s l = 0 := by
 have e : intE s l = 8 := by simp [intE, h]
 exact ⟨e, by unfold intX; rw [e]; rfl⟩
theorem int_many {l : List Nat} (h : okI s l = true) (h2 : ¬ (l.length ≤ 1 ∧ (val l < 9223372036854775808 ∨ (s = true ∧ val l = 9223372036854775808)))) : intE s l = 4 ∧ intX s l = 0 := by
 have e : intE s l = 4 := by unfold intE; rw [if_pos h, if_neg h2]
 exact ⟨e, by unfold intX; rw [e]; rfl⟩
theorem int_fits {l : List Nat} (h : okI s l = true) (h2 : l.length ≤ 1 ∧ (val l < 9223372036854775808 ∨ (s = true ∧ val l = 9223372036854775808))) : intE s l = 0 ∧ intX s l = zof s l := by
 have e : intE s l = 0 := by unfold intE; rw [if_pos h, if_pos h2]
 exact ⟨e, by unfold intX; rw [e]; rfl⟩
theorem val_few {l : List Nat} (h : l.length ≤ 1) : l[0]?.getD 0 = val l := by
 match l, h with
 | [], _ => rfl
 | [x], _ => simp [val]
theorem okI_good {l : List Nat} (h : okI s l = true) : good l = true := by
 unfold okI at h
 rw [Bool.and_eq_true] at h
 exact h.1
theorem wint_all {w : World} {l : List Nat} (ha : IsI w Z a s l) :
  Calls Tryz.prog 221 #[a] w fun e w' => e = .returned (.tuple #[.int .i64 (intX s l), .int .i64 (intE s l)]) ∧ Below w.heap.size w w' := by
 obtain ⟨_, rfl, A, c, rfl, R⟩ := ha
 have I : Below w.heap.size w (w.alloc (.cells #[.bool s, .slice A l.length c] 35)) := (Below.refl _ w).alloc (Nat.le_refl _) _
 obtain ⟨D, F, _, _, _⟩ := Box.new w (.bool s) (.slice A l.length c) 35
 have W : IsI w Z (.agg #[.bool s, .slice A l.length c]) s l := ⟨_, rfl, A, c, rfl, R⟩
 have L := wcheck_any (W.below I)
 have S : IsU w Z (.slice A l.length c) l := ⟨A, c, rfl, R⟩
 have J := R.small
 cases hok : okI s l with
 | false =>
   obtain ⟨T, U⟩ := int_bad hok
   have O : errC s l = 8 := by simp [errC, hok]
   rw [O] at L
   rw [T, U]
   have K := hid L
   clear L T U O hok W S R
   go_enter Tryz.func221, Tryz.ntmps221
   go_wp2_with fail
   refine K.out.mono ?_
   rintro e G ⟨rfl, B⟩
   have C := from_ I B
   go_wp2
   go_ret2
   exact ⟨rfl, C⟩
 | true =>
   have O : errC s l = 0 := by simp [errC, hok]
   rw [O] at L
   have K := hid L
   have Y := okI_good hok
   by_cases hlen : l.length ≤ 1
   · have P := fun (G : World) (h : Below w.heap.size w G) => word_few (S.below h) Y hlen
     rw [val_few hlen] at P
     have o : val l < 18446744073709551616 := by
      have := val_lt J
      refine Nat.lt_of_lt_of_le this ?_
      exact Nat.le_trans (Nat.pow_le_pow_right (by omega) hlen) (by omega)
     have M := fun h => int_many hok h
     have H := fun h => int_fits hok h
     have Q : s = true → 0 < val l := fun h => by
      rcases (okI_cases hok J).2 with h2 | h2
      · rw [h2] at h; cases h
      · exact h2.2
     have b : zof s l = if s = true then -(val l : Int) else (val l : Int) := rfl
     rw [b] at H
     generalize val l = x at *
     generalize intX s l = X at *
     generalize intE s l = E at *
     have N := hid P
     clear P L O hok W S R b Y
     rcases (show 9223372036854775808 < x ∨ x = 9223372036854775808 ∨ x < 9223372036854775808 by omega) with hx | hx | hx
     · obtain ⟨rfl, rfl⟩ := M (by omega)
       have d : decide ((9223372036854775808 : Int) < (x : Int)) = true := decide_eq_true (by omega)
       clear M H Q J
       go_enter Tryz.func221, Tryz.ntmps221
       go_wp2_with fail
       refine K.out.mono ?_
       rintro e G ⟨rfl, B⟩
       have D := keepC B D
       have F := keepC B F
       have C := from_ I B
       go_wp2_with fail
       refine (N.out _ C).mono ?_
       rintro e V ⟨rfl, rfl⟩
       go_wp2
       go_ret2
       exact ⟨rfl, C⟩
     · subst hx
       cases s
       · obtain ⟨rfl, rfl⟩ := M (by simp)
         clear M H Q J
         go_enter Tryz.func221, Tryz.ntmps221
         go_wp2_with fail
         refine K.out.mono ?_
         rintro e G ⟨rfl, B⟩
         have D := keepC B D
         have F := keepC B F
         have C := from_ I B
         go_wp2_with fail
         refine (N.out _ C).mono ?_
         rintro e V ⟨rfl, rfl⟩
         go_wp2
         go_ret2
         exact ⟨rfl, C⟩
       · obtain ⟨rfl, rfl⟩ := H (by simp; omega)
         simp only [if_true]
         have g : IntKind.u64.wrap (-9223372036854775808) = 9223372036854775808 := by rw [IntKind.wrap_u64]; omega
         have i : IntKind.i64.wrap 9223372036854775808 = -9223372036854775808 := by rw [IntKind.wrap_i64]; omega
         clear M H Q J
         go_enter Tryz.func221, Tryz.ntmps221
         go_wp2_with fail
         refine K.out.mono ?_
         rintro e G ⟨rfl, B⟩
         have D := keepC B D
         have F := keepC B F
         have C := from_ I B
         go_wp2_with fail
         refine (N.out _ C).mono ?_
         rintro e V ⟨rfl, rfl⟩
         go_wp2
         go_ret2
         exact ⟨rfl, C⟩
     · cases s
       · obtain ⟨rfl, rfl⟩ := H ⟨hlen, .inl hx⟩
         simp only [Bool.false_eq_true, if_false]
         have d : decide ((9223372036854775808 : Int) < (x : Int)) = false := decide_eq_false (by omega)
         have j : ((x : Int) == 9223372036854775808) = false := beq_eq_false_iff_ne.2 (by omega)
         clear M H Q J
         go_enter Tryz.func221, Tryz.ntmps221
         go_wp2_with fail
         refine K.out.mono ?_
         rintro e G ⟨rfl, B⟩
         have D := keepC B D
         have F := keepC B F
         have C := from_ I B
         go_wp2_with fail
         refine (N.out _ C).mono ?_
         rintro e V ⟨rfl, rfl⟩
         go_wp2
         go_ret2
         exact ⟨rfl, C⟩
       · obtain ⟨rfl, rfl⟩ := H ⟨hlen, .inl hx⟩
         simp only [if_true]
         have q := Q rfl
         obtain ⟨y, m⟩ : ∃ y, y = 18446744073709551616 - x := ⟨_, rfl⟩
         have d : decide ((9223372036854775808 : Int) < (x : Int)) = false := decide_eq_false (by omega)
         have j : ((x : Int) == 9223372036854775808) = false := beq_eq_false_iff_ne.2 (by omega)
         have g : IntKind.u64.wrap (-(x : Int)) = (y : Int) := by rw [IntKind.wrap_u64]; omega
         have i : IntKind.i64.wrap (y : Int) = -(x : Int) := by rw [IntKind.wrap_i64]; omega
         clear M H Q J m
         go_enter Tryz.func221, Tryz.ntmps221
         go_wp2_with fail
         refine K.out.mono ?_
         rintro e G ⟨rfl, B⟩
         have D := keepC B D
         have F := keepC B F
         have C := from_ I B
         go_wp2_with fail
         refine (N.out _ C).mono ?_
         rintro e V ⟨rfl, rfl⟩
         go_wp2
         go_ret2
         exact ⟨rfl, C⟩
   · have P := fun (G : World) (h : Below w.heap.size w G) => word_many (S.below h) Y (by omega)
     obtain ⟨T, U⟩ := int_many hok (fun h => hlen h.1)
     rw [T, U]
     have N := hid P
     clear P L T U O hok W S R Y J
     go_enter Tryz.func221, Tryz.ntmps221
     go_wp2_with fail
     refine K.out.mono ?_
     rintro e G ⟨rfl, B⟩
     have D := keepC B D
     have F := keepC B F
     have C := from_ I B
     go_wp2_with fail
     refine (N.out _ C).mono ?_
     rintro e V ⟨rfl, rfl⟩
     go_wp2
     go_ret2
     exact ⟨rfl, C⟩
end Go.Proofs.YtdncgncijbnjpaaGreat
