/- The divider's steps in memory: what is given back; the guess. No conditions but bounds on lengths. -/
import Derived.WalkMore
import Derived.Test.YtdncgncijbnjpaaGreatRRefE
import Derived.Test.YtdncgncijbnjpaaGreatRWhC
set_option linter.unusedVariables false
set_option linter.unusedSimpArgs false
set_option maxRecDepth 100000
set_option maxHeartbeats 40000000
namespace Go.Proofs.YtdncgncijbnjpaaGreat
open Go.Lib (hid)
open Go.RowKit Go.Shelf
variable {B : Option Addr} {D R : List Nat} {Zd : Zone} {a cD cR g rb ro : Nat}
structure Given_ (w : World) (rb ro cR : Nat) (R D : List Nat) (a : Nat) (c : Nat) (w' : World) (R' : List Nat) : Prop where
 one : c ≤ 1
 len : R'.length = R.length
 small : Small R'
 same : ∀ j (h : j < R'.length) (h' : j < R.length), a + D.length < j → R'[j] = R[j]
 eq : val R' + c * 18446744073709551616 ^ (a + D.length + 1) = val R + val D * 18446744073709551616 ^ a
 own : U64s w' (only rb) (some ⟨rb, ro, none⟩) cR R'
 just : Just rb w w'
theorem dback_any {w : World} (h : Divr w g rb ro cR Zd B cD R D) (hn : a + D.length < R.length) :
  Calls Tryz.prog 289 #[.pointer (some ⟨g, 0, none⟩), .int .i64 (a : Int)] w fun e w' => ∃ c R', e = .returned (.bool (decide (0 < c))) ∧ Given_ w rb ro cR R D a c w' R' := by
 obtain ⟨nR, P⟩ : ∃ nR, nR = R.length := ⟨_, rfl⟩
 have Q := h.max
 have c0 := h.c0
 rw [← P] at c0 Q
 have c1 := h.c1
 have S := BackI.start (R0 := R) (D := D) (a := a) h.own.small
 have T := h.own
 have U := h.ne
 have V := h.nz
 have J := h.by_
 have M := J.small
 obtain ⟨j, Kb, L⟩ := hid3 U V P
 clear h U V P
 have Kd : D.length ≤ 100000000000 := by have := L.out; omega
 have Ke : nR ≤ 100000000000 := Q
 have Kf : a + D.length < nR := by have := L.out; omega
 clear hn
 go_enter Tryz.func289, Tryz.ntmps289
 go_wp2
 go_loopw [14, 5] (fun iv cv wr => ∃ (i : Nat) (R' : List Nat) (C : Nat), i ≤ D.length ∧ iv = .int .i64 i ∧ cv = .int .u64 (C : Int) ∧ Hid (U64s wr (only rb) (some ⟨rb, ro, none⟩) cR R') ∧ Hid (BackI R D a i R' C) ∧ Just rb w wr) (fun iv _ _ => D.length - (intOf iv).toNat)
 case atStart => exact ⟨0, R, 0, Nat.zero_le _, rfl, rfl, hid T, hid S, Just.refl _ _⟩
 case round =>
  obtain ⟨i, R', C, hi, rfl, rfl, G, F, I⟩ := hrel
  have k0 := I.cell j.out c0
  have k1 := I.cell j.out c1
  have W := F.out.len
  have X := F.out.one
  have Y := hid W
  clear W S T c0 c1
  by_cases hlt : i < D.length
  · have Z := I.words Kb.out J
    obtain ⟨b2, o2, rfl, Kh, _, _, m⟩ := Z.open (by omega)
    have hy := m i hlt
    have b := M.get hlt
    have E : a + i < R'.length := by have := Y.out; have := L.out; omega
    have t := G.out.cellAt E
    have N := F.out.small.get E
    have u := G.out.frozenAt trivial (by omega) (a + i)
    have Kg : a + i < nR := by omega
    have d := F.out.step hlt E b
    have z : ∀ w, (callFunc 253 #[.int .u64 (R'[a + i] : Int), .int .u64 (D[i] : Int), .int .u64 (C : Int)]).run Tryz.prog w = .ok (.value (.tuple #[.int .u64 (((R'[a + i] + D[i] + C) % 18446744073709551616 : Nat) : Int), .int .u64 (((R'[a + i] + D[i] + C) / 18446744073709551616 : Nat) : Int)])) w := fun w => run_Add64 _ _ _ w N b X
    have Ka := hid d
    have H : (R'[a + i] + D[i] + C) % 18446744073709551616 < 18446744073709551616 := Nat.mod_lt _ (by omega)
    have O := hid (G.out.store E H)
    clear d F m H
    generalize D[i] = y at *
    generalize R'[a + i] = x at *
    generalize (x + y + C) / 18446744073709551616 = ca at *
    generalize (x + y + C) % 18446744073709551616 = v at *
    clear J M Z
    go_wp2
    go_region
    all_goals
     go_wp2
     go_roundw
     case rel =>
      refine ⟨i + 1, R'.set (a + i) v, ca, by omega, by go_num, rfl, ?_, Ka, (I.setCell (ro + (a + i)) (.int .u64 (v : Int))).drew⟩
      exact hid (O.out.drew)
     case measure => simp [intOf]; omega
  · obtain rfl : i = D.length := by omega
    have E : a + D.length < R'.length := by have := Y.out; have := L.out; omega
    have t := G.out.cellAt E
    have N := F.out.small.get E
    have u := G.out.frozenAt trivial (by omega) (a + D.length)
    obtain ⟨o, q, r, Kc, s⟩ := F.out.last E
    have z : ∀ w, (callFunc 253 #[.int .u64 (R'[a + D.length] : Int), .int .u64 0, .int .u64 (C : Int)]).run Tryz.prog w = .ok (.value (.tuple #[.int .u64 (((R'[a + D.length] + C) % 18446744073709551616 : Nat) : Int), .int .u64 (((R'[a + D.length] + C) / 18446744073709551616 : Nat) : Int)])) w := fun w => run_Add64 _ 0 _ w N (by omega) X
    have K := hid (And.intro o (And.intro q (And.intro r s)))
    have H : (R'[a + D.length] + C) % 18446744073709551616 < 18446744073709551616 := Nat.mod_lt _ (by omega)
    have O := hid (G.out.store E H)
    clear o q r s F H
    generalize R'[a + D.length] = x at *
    generalize (x + C) / 18446744073709551616 = c at *
    generalize (x + C) % 18446744073709551616 = v at *
    clear J M
    go_wp2
    go_region
    all_goals
     go_wp2
     go_ret
     refine ⟨c, R'.set (a + D.length) v, ?_, ⟨Kc, K.out.1, K.out.2.1, K.out.2.2.1, K.out.2.2.2, ?_, (I.setCell (ro + (a + D.length)) (.int .u64 (v : Int))).drew⟩⟩
     · first | rfl | (simp; done)
     · exact O.out.drew
theorem guess_any {w : World} {m : Nat} (h : Divr w g rb ro cR Zd B cD R D) (hD : D.length = m + 2) (hn : a + (m + 2) < R.length) (hz : ∀ j (h : j < R.length), a + (m + 2) < j → R[j] = 0)
  (hdig : val R / (val D * 18446744073709551616 ^ a) < 18446744073709551616) (hbig : ∀ h : m + 1 < D.length, 0 < D[m + 1]) :
  Calls Tryz.prog 287 #[.pointer (some ⟨g, 0, none⟩), .int .i64 (a : Int)] w fun e w' => ∃ q : Nat, e = .returned (.int .u64 (q : Int)) ∧ q < 18446744073709551616 ∧ val R / (val D * 18446744073709551616 ^ a) ≤ q ∧ Below w.heap.size w w' := by
 have Q := h.by_
 have I := Q.small
 have F := h.own.small
 have J := digit_top F I hD hn hz
 obtain ⟨d, hd⟩ : ∃ d, d = val R / (val D * 18446744073709551616 ^ a) := ⟨_, rfl⟩
 rw [← hd] at J hdig ⊢
 obtain ⟨nR, Kc⟩ : ∃ nR, nR = R.length := ⟨_, rfl⟩
 have c := h.max
 have c0 := h.c0
 rw [← Kc] at c0 c
 have c1 := h.c1
 have i := h.own
 have K := fun j (hj : j < R.length) => i.cellAt hj
 have G := K (a + (m + 2)) hn
 have o := K (a + (m + 1)) (by omega)
 have S := K (a + m) (by omega)
 have w1 := F.get hn
 have s := F.get (show a + (m + 1) < R.length by omega)
 have w3 := F.get (show a + m < R.length by omega)
 obtain ⟨b2, N, rfl, Kr, _, _, Z⟩ := Q.open (by omega)
 have t := Z (m + 1) (by omega)
 have T := Z m (by omega)
 have L := I.get (show m + 1 < D.length by omega)
 have v2 := I.get (show m < D.length by omega)
 have hb := hbig (by omega)
 obtain ⟨n, Kd⟩ : ∃ n, n = m + 2 := ⟨_, rfl⟩
 rw [hD, ← Kd] at c1
 have Kk : a + n < nR := by omega
 have Kl : 2 ≤ n := by omega
 have Km : nR ≤ 100000000000 := c
 clear hd K Z hz i Q I h hbig F
 generalize R[a + (m + 2)] = first at *
 generalize R[a + (m + 1)] = second at *
 generalize R[a + m] = third at *
 generalize D[m + 1] = high at *
 generalize D[m] = under at *
 rw [show ro + (a + (m + 2)) = ro + (a + n) by omega] at G
 rw [show ro + (a + (m + 1)) = ro + (a + n - 1) by omega] at o
 rw [show ro + (a + m) = ro + (a + n - 2) by omega] at S
 rw [show N + (m + 1) = N + (n - 1) by omega] at t
 rw [show N + m = N + (n - 2) by omega] at T
 clear hD hn Kc Kd
 by_cases hlt : first < high
 · have d1 : decide (high ≤ first) = false := decide_eq_false (by omega)
   have u := GuessI.start hlt s L w3 J
   have v := fun w => div64_any w hlt s L
   obtain ⟨Ke, Kf⟩ := hid2 u v
   clear u v
   generalize (first * 18446744073709551616 + second) / high = q0 at *
   generalize (first * 18446744073709551616 + second) % high = r0 at *
   go_enter Tryz.func287, Tryz.ntmps287
   go_wp2
   go_step3
   go_wp2
   go_quiet (fail)
   go_wp2_with fail
   refine (Kf.out _).mono ?_
   rintro e w1 ⟨rfl, H⟩
   have k0 := keepC H c0
   have k1 := keepC H c1
   have Kn := keepC H S
   have Ko := keepC H T
   have U : Below w.heap.size w w1 := from_ (below_drewN' (Below.refl _ w) _) H
   clear c0 c1 S T G o t
   go_wp2
   go_quiet (fail)
   go_wp2
   go_step3
   go_wp2
   go_loop [9, 10] (fun qv rv => ∃ q r : Nat, qv = .int .u64 (q : Int) ∧ rv = .int .u64 (r : Int) ∧ Hid (GuessI d first second high under third q r)) (fun qv _ => (intOf qv).toNat)
   case atStart => exact ⟨q0, r0, rfl, rfl, Ke⟩
   case round =>
    obtain ⟨q, r, rfl, rfl, C⟩ := hrel
    have V := C.out.word
    have x := C.out.rest
    have y := C.out.ge
    have z := fun w => bits_Mul64 q under V v2 w
    have W := Nat.div_add_mod (q * under) 18446744073709551616
    have Kp : q * under % 18446744073709551616 < 18446744073709551616 := Nat.mod_lt _ (by omega)
    have Ka := fun h => C.out.less J h
    generalize q * under / 18446744073709551616 = hi at *
    generalize q * under % 18446744073709551616 = lo at *
    generalize q * under = p at *
    obtain ⟨O, Kg⟩ := hid2 z Ka
    clear z Ka Ke Kf J
    have Kh : (hi < r) ∨ (hi = r ∧ lo ≤ third) ∨ (¬ hi < r ∧ ¬ (hi = r ∧ lo ≤ third)) := by omega
    rcases Kh with hA | ⟨hB1, hB2⟩ | ⟨hC1, hC2⟩
    · have f1 : decide (hi < r) = true := decide_eq_true hA
      clear W
      go_wp2_with fail
      refine (O.out _).mono ?_
      rintro e w' ⟨rfl, rfl⟩
      go_wp2
      rw [Exit.noGoto_ret]
      go_ret
      exact ⟨q, rfl, V, y, below_drewN' U _⟩
    · have f1 : decide (hi < r) = false := decide_eq_false (by omega)
      have M : ((hi : Int) == (r : Int)) = true := by simp [hB1]
      have f3 : decide (lo ≤ third) = true := decide_eq_true hB2
      clear W hB1
      go_wp2_with fail
      refine (O.out _).mono ?_
      rintro e w' ⟨rfl, rfl⟩
      go_wp2
      rw [Exit.noGoto_ret]
      go_ret
      exact ⟨q, rfl, V, y, below_drewN' U _⟩
    · have f1 : decide (hi < r) = false := decide_eq_false hC1
      obtain ⟨g1, b⟩ := Kg.out (by
       rcases Nat.lt_or_ge r hi with h | h
       · have := Nat.mul_le_mul_right 18446744073709551616 h
         rw [Nat.succ_mul] at this
         omega
       · have : hi = r := by omega
         subst this
         omega)
      obtain ⟨E, P⟩ : ∃ E, E = q - 1 := ⟨_, rfl⟩
      have f4 : IntKind.u64.wrap ((q : Int) - 1) = (E : Int) := by rw [IntKind.wrap_u64]; omega
      have Kq : E < q := by omega
      rw [← P] at b
      have X := fun h => C.out.next g1 (by rw [← P]; exact b) h
      rw [← P] at X
      have Y := hid X
      have Ki : E < 18446744073709551616 := by omega
      have Kb : (((hi : Int) == (r : Int)) = false) ∨ (((hi : Int) == (r : Int)) = true ∧ decide (lo ≤ third) = false) := by
       by_cases h : hi = r
       · exact .inr ⟨by simp [h], decide_eq_false (fun h2 => hC2 ⟨h, h2⟩)⟩
       · exact .inl (beq_eq_false_iff_ne.2 (by omega))
      clear W P X hC1 hC2 Kg
      by_cases hov : r + high < 18446744073709551616
      · have Kj : ∀ w, (callFunc 253 #[.int .u64 (r : Int), .int .u64 (high : Int), .int .u64 0]).run Tryz.prog w = .ok (.value (.tuple #[.int .u64 ((r + high : Nat) : Int), .int .u64 0])) w := fun w => by
         have := run_Add64 r high 0 w x L (by omega)
         simpa [addZ, addC, Nat.mod_eq_of_lt hov, Nat.div_eq_of_lt hov] using this
        have HG := hid (Y.out hov)
        clear C hov Y
        generalize r + high = G at *
        rcases Kb with M | ⟨M, f3⟩
        all_goals
         go_wp2_with fail
         refine (O.out _).mono ?_
         rintro e w' ⟨rfl, rfl⟩
         go_wp2
         go_round
         case rel => exact ⟨E, G, rfl, rfl, HG⟩
         case measure => simp [intOf]; omega
      · have Kj : ∀ w, (callFunc 253 #[.int .u64 (r : Int), .int .u64 (high : Int), .int .u64 0]).run Tryz.prog w = .ok (.value (.tuple #[.int .u64 (((r + high) % 18446744073709551616 : Nat) : Int), .int .u64 1])) w := fun w => by
         have := run_Add64 r high 0 w x L (by omega)
         have h1 : (r + high + 0) / 18446744073709551616 = 1 := by omega
         rw [addC, h1] at this
         simpa [addZ] using this
        clear C hov Y
        generalize (r + high) % 18446744073709551616 = G at *
        rcases Kb with M | ⟨M, f3⟩
        all_goals
         go_wp2_with fail
         refine (O.out _).mono ?_
         rintro e w' ⟨rfl, rfl⟩
         go_wp2
         rw [Exit.noGoto_ret]
         go_ret
         exact ⟨E, rfl, Ki, b, below_drewN' U _⟩
 · have d1 : decide (high ≤ first) = true := decide_eq_true (by omega)
   go_enter Tryz.func287, Tryz.ntmps287
   go_wp2
   go_step3
   go_wp2
   go_quiet (fail)
   go_wp2
   rw [Exit.noGoto_ret]
   go_ret
   exact ⟨18446744073709551615, rfl, by omega, by omega, below_drewN' (Below.refl _ _) _⟩
end Go.Proofs.YtdncgncijbnjpaaGreat
