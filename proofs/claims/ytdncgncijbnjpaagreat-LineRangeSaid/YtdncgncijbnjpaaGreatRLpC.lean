/- facetroomlaw27.of at x + 1; alive. No conditions. -/
import Derived.LoopN
import Derived.Deep.DeepCutAuto
import Derived.Test.YtdncgncijbnjpaaGreatRLoN
import Derived.Test.YtdncgncijbnjpaaGreatRLnR
import Derived.Test.YtdncgncijbnjpaaGreatRLoS
import Derived.Test.YtdncgncijbnjpaaGreatRLnQ
import Derived.Test.YtdncgncijbnjpaaGreatRTelC
import Derived.Test.YtdncgncijbnjpaaGreatRWhV
import Derived.Test.YtdncgncijbnjpaaGreatRLnS
import Derived.Test.YtdncgncijbnjpaaGreatRLnE
set_option linter.unusedVariables false
set_option linter.unusedSimpArgs false
set_option maxRecDepth 100000
set_option maxHeartbeats 40000000
namespace Go.Proofs.YtdncgncijbnjpaaGreat
open Go.Lib (hid)
open Go.RowKit
variable {A Aa B BA C D EA FF PA UF XA tA tB uA uB : Option Addr} {M N a b bc c ca ce cx d dx ff g gg gl i j lk na pc pn ta tb ua ub uf : Nat} {P : IvP} {V la nodes x : Int} {W W' : World} {Z Z1 Z2 : Zone} {a0 a1 a2 a3 a4 a5 a6 a7 a8 g1 g2 g3 g4 g5 : Value} {q r t u : Iv}
structure LkB where
 pk : Nat → Int
 pn : Nat
 bx : Nat → IvP
 sz : Nat → Int
def packAt (pk : Nat → Int) (n : Nat) (x : Int) : Option Nat := (List.range n).find? fun j => pk j == x
def noR : Nat → Bool := fun _ => false
def scalR (B : LkB) (n : Int) : LR := ⟨true, B.bx n.toNat, match packAt B.pk B.pn n with | some j => varL B.pn (j + 1) | none => constL B.pn (B.bx n.toNat), noR⟩
def opR (pn : Nat) (k : Int) (R1 R2 : LR) : LR :=
 if k = 5 then rngR (ivA R1.P R2.P) (addLL R1.fs R2.fs)
 else if k = 6 then rngR (ivA R1.P (ivNg R2.P)) (addLL R1.fs (negL R2.fs))
 else if k = 7 then rngR (ivM R1.P R2.P) (if hangs (ivOf 0 0) (fmOf R2.fs) then scaL R2.fs R1.P else scaL R1.fs R2.P)
 else if k = 8 then othR (!(partsP R2.P).isEmpty) (keepIn (0, 0) R2.P) 3 (ivD R1.P R2.P) pn
 else if k = 9 then othR (!(partsP R2.P).isEmpty) (keepIn (0, 0) R2.P) 3 (modP R1.P R2.P) pn
 else if k = 10 then othR (decide ((shK R2.P).1 ≤ (shK R2.P).2)) (!keepIn R2.P (0, 63)) 4 (shlP R1.P R2.P) pn
 else othR (decide ((shK R2.P).1 ≤ (shK R2.P).2)) (!keepIn R2.P (0, 63)) 4 (shrP R1.P R2.P) pn
def lkE (B : LkB) : Nat → Ex → LR
 | 0, _ => ⟨false, (0, 0), [], noR⟩
 | d + 1, .mk k _ n l _ =>
   match l with
   | [] => if k = 1 then ⟨true, (n, n), constL B.pn (n, n), noR⟩ else scalR B n
   | [a] => seq1 (lkE B d a) (if k = 3 then loadR (lkE B d a).P (B.sz n.toNat) B.pn else rngR (ivNg (lkE B d a).P) (negL (lkE B d a).fs))
   | a :: b :: _ => seqR (lkE B d a) (lkE B d b) (opR B.pn k (lkE B d a) (lkE B d b))
def twos : Nat → Ex → Nat
 | 0, _ => 0
 | d + 1, .mk _ _ _ l _ => match l with
   | [] => 0
   | [a] => twos d a
   | a :: b :: _ => twos d a + twos d b + 1
theorem packAt_idx {pk : Nat → Int} {n : Nat} : IdxI pk n x (match packAt pk n x with | some j => (j : Int) | none => -1) := by
 unfold packAt
 cases h : (List.range n).find? fun j => pk j == x with
 | none =>
   refine .inr ⟨fun j hj e => ?_, rfl⟩
   have A := List.find?_eq_none.1 h j (List.mem_range.2 hj)
   rw [e] at A
   simp at A
 | some j =>
   have A := List.find?_range_eq_some.1 h
   obtain ⟨C, D, E⟩ := A
   exact .inl ⟨j, List.mem_range.1 D, by simpa using C, fun i hi e => by have B := E i hi; rw [e] at B; simp at B, rfl⟩
def InAll (P : IvP) : Prop := allP.1 ≤ P.1 ∧ P.1 ≤ P.2 ∧ P.2 ≤ allP.2
theorem InAll.n1 (h : InAll P) : IvN 1 P.1 P.2 := by
 obtain ⟨C, D, E⟩ := h
 have A : allP.1 = -9223372036854775808 := rfl
 have B : allP.2 = 9223372036854775807 := rfl
 rw [A] at C
 rw [B] at E
 have F := wN_one
 have G : wN 1 ≤ bigZ := wN_le (by omega)
 exact ⟨.inr (.inr (by omega)), .inr (.inr (by omega)), D, by omega, by omega⟩
theorem InAll.n (h : InAll P) (hN : 1 ≤ N) : IvN N P.1 P.2 := h.n1.up hN
theorem meetZ_all : InAll (meetZ P allP) := by
 have A : allP.1 = -9223372036854775808 := rfl
 have B : allP.2 = 9223372036854775807 := rfl
 unfold meetZ InAll
 cases h : meetOk P allP with
 | false =>
   show allP.1 ≤ 0 ∧ (0 : Int) ≤ 0 ∧ 0 ≤ allP.2
   rw [A, B]
   omega
 | true =>
   have h := of_decide_eq_true h
   show allP.1 ≤ max P.1 allP.1 ∧ max P.1 allP.1 ≤ min P.2 allP.2 ∧ min P.2 allP.2 ≤ allP.2
   omega
structure FmB (n N : Nat) (fs : List IvP) : Prop where
 len : fs.length = n
 iv : ∀ j (h : j < fs.length), IvN N fs[j].1 fs[j].2
theorem FmB.up {n : Nat} {fs : List IvP} (h : FmB n N fs) (hN : N ≤ M) : FmB n M fs := ⟨h.len, fun j hj => (h.iv j hj).up hN⟩
theorem FmB.w {n : Nat} {fs : List IvP} (h : FmB n N fs) (hN : N ≤ 3200) : FmW 3200 fs (fmOf fs) := FmW.of fun j hj => (h.iv j hj).up hN
theorem FmB.neg {n : Nat} {fs : List IvP} (h : FmB n N fs) : FmB n N (negL fs) := by
 refine ⟨by rw [negL, List.length_map]; exact h.len, fun j hj => ?_⟩
 have A : j < fs.length := by simpa [negL] using hj
 rw [negL_get hj A]
 exact ivNg_ok (h.iv j A)
theorem FmB.add {n : Nat} {fs gs : List IvP} (h : FmB n N fs) (g : FmB n N gs) (hN : N ≤ 6000) : FmB n (N + 1) (addLL fs gs) := by
 have C : (addLL fs gs).length = n := by rw [addLL, List.length_zipWith, h.len, g.len]; omega
 refine ⟨C, fun j hj => ?_⟩
 have A : j < fs.length := by rw [h.len]; omega
 have B : j < gs.length := by rw [g.len]; omega
 rw [addLL_get hj A B]
 exact ivA_ok (h.iv j A) (g.iv j B) hN
theorem FmB.sca {n : Nat} {fs : List IvP} (h : FmB n N fs) (hP : InAll P) (hN : N ≤ 6000) : FmB n (N + 1) (scaL fs P) := by
 refine ⟨by rw [scaL, List.length_map]; exact h.len, fun j hj => ?_⟩
 have A : j < fs.length := by simpa [scaL] using hj
 rw [scaL_get hj A]
 exact ivM_ok (h.iv j A) hP.n1 (by omega)
theorem FmB.const (hP : InAll P) : FmB (d + 1) 1 (constL d P) := by
 refine ⟨constL_len d P, fun j hj => ?_⟩
 have A : IvN 1 ((0 : Int), (0 : Int)).1 ((0 : Int), (0 : Int)).2 := zero_n
 simp only [constL, List.getElem_set]
 split
 · exact hP.n1
 · simpa using A
theorem FmB.var : FmB (d + 1) 1 (varL d i) := by
 refine ⟨varL_len d i, fun j hj => ?_⟩
 have A : IvN 1 ((0 : Int), (0 : Int)).1 ((0 : Int), (0 : Int)).2 := zero_n
 have B : InAll ((1 : Int), (1 : Int)) := ⟨by decide, by decide, by decide⟩
 simp only [varL, List.getElem_set]
 split
 · exact B.n1
 · simpa using A
def i64E : Nat → Ex → Prop
 | 0, _ => True
 | d + 1, .mk _ _ n l _ => (-9223372036854775808 ≤ n ∧ n ≤ 9223372036854775807) ∧ ∀ x ∈ l, i64E d x
theorem rngR_ok {n : Nat} {fs : List IvP} (h : FmB n N fs) : InAll (rngR P fs).P ∧ FmB n N (rngR P fs).fs := ⟨meetZ_all, h⟩
theorem othR_ok {g z : Bool} {r : Nat} (hN : 1 ≤ N) : InAll (othR g z r P pn).P ∧ FmB (pn + 1) N (othR g z r P pn).fs := ⟨meetZ_all, (FmB.const meetZ_all).up hN⟩
theorem allP_in : InAll allP := ⟨by decide, by decide, by decide⟩
theorem opR_ok {k : Int} {R1 R2 : LR} (h1 : InAll R1.P) (h2 : InAll R2.P) (f1 : FmB (pn + 1) N R1.fs) (f2 : FmB (pn + 1) M R2.fs) (hN : N + M ≤ 6000) (hN1 : 1 ≤ N) (hM1 : 1 ≤ M) : InAll (opR pn k R1 R2).P ∧ FmB (pn + 1) (N + M) (opR pn k R1 R2).fs := by
 unfold opR
 have a := f1.up (show N ≤ N + M - 1 by omega)
 have b := f2.up (show M ≤ N + M - 1 by omega)
 have e : N + M - 1 + 1 = N + M := by omega
 split
 · have h := rngR_ok (P := ivA R1.P R2.P) (a.add b (by omega)); rwa [e] at h
 · split
   · have h := rngR_ok (P := ivA R1.P (ivNg R2.P)) (a.add b.neg (by omega)); rwa [e] at h
   · split
     · split
       · have h := rngR_ok (P := ivM R1.P R2.P) (b.sca h1 (by omega)); rwa [e] at h
       · have h := rngR_ok (P := ivM R1.P R2.P) (a.sca h2 (by omega)); rwa [e] at h
     · split
       · exact othR_ok (by omega)
       · split
         · exact othR_ok (by omega)
         · split
           · exact othR_ok (by omega)
           · exact othR_ok (by omega)
theorem mayE_parts {na : Int} {k n p : Int} {nm : ByteArray} {l : List Ex} (h : mayE V na (d + 1) (.mk k nm n l p) = true) : (1 ≤ k ∧ k ≤ 11) ∧ rightE V na k n = true ∧ (l.length : Int) = argsE k ∧ ∀ x ∈ l, mayE V na d x = true := by
 simp only [mayE, headE, Ex.k, Ex.n, Ex.l, Bool.and_eq_true, List.all_eq_true, decide_eq_true_eq] at h
 obtain ⟨⟨⟨⟨A, B⟩, C⟩, D⟩, E⟩ := h
 exact ⟨⟨of_decide_eq_true A, of_decide_eq_true B⟩, C, of_decide_eq_true D, E⟩
theorem lkE_ok {B : LkB} {na : Int} (hbx : ∀ n : Int, 0 ≤ n → n < V → InAll (B.bx n.toNat)) : ∀ {d : Nat} {x : Ex}, mayE V na d x = true → i64E d x → twos d x ≤ 2900 → (lkE B d x).ok = true → InAll (lkE B d x).P ∧ FmB (B.pn + 1) (1 + twos d x) (lkE B d x).fs
 | 0, x, hm, _, _, _ => by simp [mayE] at hm
 | d + 1, .mk k nm n [] p, hm, hi, ht, ho => by
   obtain ⟨hk, hr, hl, _⟩ := mayE_parts hm
   obtain ⟨G, _⟩ := hi
   by_cases h1 : k = 1
   · have I := hr
     simp only [rightE, h1, if_true, decide_eq_true_eq] at I
     have A : InAll (n, n) := ⟨G.1, Int.le_refl _, G.2⟩
     simp only [lkE, twos, h1, if_true]
     exact ⟨A, FmB.const A⟩
   · have C : k = 2 := by
      simp only [argsE, List.length_nil] at hl
      split at hl
      · omega
      · split at hl <;> simp at hl
     subst C
     simp only [rightE] at hr
     simp at hr
     have A := hbx n hr.1 hr.2
     simp only [lkE, twos, scalR]
     rw [if_neg (by omega)]
     refine ⟨A, ?_⟩
     dsimp only
     split
     · exact FmB.var
     · exact FmB.const A
 | d + 1, .mk k nm n [a] p, hm, hi, ht, ho => by
   obtain ⟨hk, hr, hl, D⟩ := mayE_parts hm
   have E := hi.2 a (by simp)
   simp only [lkE, seq1] at ho ⊢
   split at ho
   · rename_i h1
     rw [if_pos h1]
     obtain ⟨H, F⟩ := lkE_ok hbx (D a (by simp)) E (by simpa [twos] using ht) h1
     simp only [twos]
     split
     · exact ⟨allP_in, (FmB.const allP_in).up (by omega)⟩
     · exact ⟨meetZ_all, F.neg⟩
   · cases ho
 | d + 1, .mk k nm n (a :: b :: l) p, hm, hi, ht, ho => by
   obtain ⟨hk, hr, hl, D⟩ := mayE_parts hm
   have E := hi.2 a (by simp)
   have J := hi.2 b (by simp)
   simp only [twos] at ht ⊢
   simp only [lkE, seqR] at ho ⊢
   split at ho
   · rename_i h1
     rw [if_pos h1]
     split at ho
     · rename_i C
       rw [if_pos C]
       obtain ⟨H, F⟩ := lkE_ok hbx (D a (by simp)) E (by omega) h1
       obtain ⟨K, L⟩ := lkE_ok hbx (D b (by simp)) J (by omega) C
       have h := opR_ok (k := k) H K F L (by omega) (by omega) (by omega)
       rw [show 1 + (twos d a + twos d b + 1) = 1 + twos d a + (1 + twos d b) by omega]
       exact h
     · cases ho
   · cases ho
theorem IvsAt.keepE0 {ps : List Iv} (h : IvsAt W Z A c ps) (hn : 0 < ps.length → ∀ b o, A = some ⟨b, o, none⟩ → b ≠ g) (hN : NoU W g) (hg : W.grownBy W' (some g)) : IvsAt W' old A c ps := by
 rcases Nat.eq_zero_or_pos ps.length with h0 | h0
 · exact ⟨h.cap, h.max, fun h1 => by omega⟩
 · exact h.keepE (hn h0) hN hg
structure LkE (w : World) (lk : Nat) (G : LkG) (B : LkB) (ps : List Iv) : Prop where
 pn : B.pn = G.pn
 pm : G.pn ≤ 63
 pk : RowK 1 w G.PA G.pc G.pn (fun j _ => .int .i64 (B.pk j))
 pb : 0 < G.pn → ∀ b o, G.PA = some ⟨b, o, none⟩ → b ≠ lk
 bx : IvsAt w old G.BA G.bc ps
 bb : 0 < ps.length → ∀ b o, G.BA = some ⟨b, o, none⟩ → b ≠ lk
 bl : ps.length = G.bn
 bi : ∀ j (h : j < ps.length), IvW (B.bx j) ps[j] ∧ InAll (B.bx j)
 sz : RowK 1 w G.Aa G.ca G.na (fun j _ => .int .i64 (B.sz j))
 sb : 0 < G.na → ∀ b o, G.Aa = some ⟨b, o, none⟩ → b ≠ lk
 si : ∀ j, j < G.na → 1 ≤ B.sz j ∧ B.sz j ≤ 16
theorem LkE.kept {w : World} {G : LkG} {B : LkB} {ps : List Iv} {m : Nat → Bool} (h : LkE w lk G B ps) (hk : BoxE w lk (lkL G m)) (hg : w.grownBy W (some lk)) : LkE W lk G B ps :=
 { h with
  pk := h.pk.keptR hg h.pb
  bx := h.bx.keepE0 h.bb (hk.noU lkL_noW) hg
  sz := h.sz.keptR hg h.sb }
theorem orF_no (m : Nat → Bool) : orF m noR = m := by funext i; simp [orF, noR]
theorem IdxI.lt {pk : Nat → Int} {n : Nat} (h : IdxI pk n x (j : Int)) : j < n := by
 rcases h with ⟨i, h1, _, _, h2⟩ | ⟨_, h2⟩
 · omega
 · omega
theorem lexpr_leaf {G : LkG} {B : LkB} {ps : List Iv} {na : Int} {k n p : Int} {nm : ByteArray} {w : World} {m : Nat → Bool} (hm : mayE (ps.length : Int) na (d + 1) (.mk k nm n [] p) = true) (hi : i64E (d + 1) (.mk k nm n [] p)) (hk : BoxE w lk (lkL G m)) (E : LkE w lk G B ps) :
  Calls Tryz.prog 31 #[.pointer (some ⟨lk, 0, none⟩), .agg #[.int .u8 k, .string nm, .int .i64 n, .slice A 0 c, .int .i64 p]] w (LP lk G m (lkE B (d + 1) (.mk k nm n [] p)) w) := by
 obtain ⟨q, L, J, _⟩ := mayE_parts hm
 obtain ⟨W, _⟩ := hi
 by_cases h1 : k = 1
 · subst h1
   have e : lkE B (d + 1) (.mk 1 nm n [] p) = ⟨true, (n, n), constL G.pn (n, n), noR⟩ := by simp only [lkE, if_true, E.pn]
   rw [e]
   refine (lexpr_num (hk := hk.b) E.pm W (IvW.mk (n, n))).mono ?_
   rintro e M ⟨O, X, Y, Z, F, f, rfl, u1, u2, u3, u4, C⟩
   exact ⟨_, O, X, Y, Z, F, _, f, rfl, fun _ => ⟨IvW.mk _, u1.mono (le_old _), u2.mono (le_old _), (constL_len _ _).symm, u3.mono (le_old _), u4⟩, by rw [show orF m (LR.mk true (n, n) (constL G.pn (n, n)) noR).mrk = m from orF_no m]; exact hk.below C, grown_any C⟩
 · have V : k = 2 := by
    simp only [argsE, List.length_nil] at J
    split at J
    · omega
    · split at J <;> simp at J
   subst V
   simp only [rightE] at L
   simp at L
   obtain ⟨N, rfl⟩ : ∃ N : Nat, n = (N : Int) := ⟨n.toNat, by omega⟩
   have D : N < ps.length := by omega
   obtain ⟨b, o, a, r, g⟩ := E.bx.row (by omega)
   obtain ⟨s, t, O, u, ⟨P, Q, R, S, T, U⟩, u0, u1⟩ := g N D
   have I := hk.b
   unfold lkL at I
   rw [a] at I
   have h := E.bl
   have i := E.bx.len
   have H := packAt_idx (pk := B.pk) (n := G.pn) (x := (N : Int))
   cases hp : packAt B.pk G.pn (N : Int) with
   | some j =>
     rw [hp] at H
     have e : lkE B (d + 1) (.mk 2 nm (N : Int) [] p) = ⟨true, B.bx N, varL G.pn (j + 1), noR⟩ := by
      have K : ¬ (2 : Int) = 1 := by decide
      simp only [lkE, scalR, if_neg K, E.pn, hp, Int.toNat_natCast]
     rw [e]
     refine (lexpr_varP (hk := I) E.pm (N := N) (by omega) (by omega) E.pk (IdxI.lt H) H P Q R S T U).mono ?_
     rintro e M ⟨F, f, rfl, u3, u4, C⟩
     exact ⟨_, _, _, _, _, F, _, f, rfl, fun _ => ⟨(E.bi N D).1, (u0.below C).mono (le_old _), (u1.below C).mono (le_old _), (varL_len _ _).symm, u3.mono (le_old _), u4⟩, by rw [show orF m (LR.mk true (B.bx N) (varL G.pn (j + 1)) noR).mrk = m from orF_no m]; exact hk.below C, grown_any C⟩
   | none =>
     rw [hp] at H
     have e : lkE B (d + 1) (.mk 2 nm (N : Int) [] p) = ⟨true, B.bx N, constL G.pn (B.bx N), noR⟩ := by
      have K : ¬ (2 : Int) = 1 := by decide
      simp only [lkE, scalR, if_neg K, E.pn, hp, Int.toNat_natCast]
     rw [e]
     refine (lexpr_varN (hk := I) E.pm (N := N) (by omega) (by omega) E.pk H (E.bi N D).1 ((E.bi N D).2.n (by omega)) u0 u1 P Q R S T U).mono ?_
     rintro e M ⟨F, f, rfl, u3, u4, C⟩
     exact ⟨_, _, _, _, _, F, _, f, rfl, fun _ => ⟨(E.bi N D).1, (u0.below C).mono (le_old _), (u1.below C).mono (le_old _), (constL_len _ _).symm, u3.mono (le_old _), u4⟩, by rw [show orF m (LR.mk true (B.bx N) (constL G.pn (B.bx N)) noR).mrk = m from orF_no m]; exact hk.below C, grown_any C⟩
theorem partsP_ne {Q : IvP} (h : (!(partsP Q).isEmpty) = true) : partsP Q ≠ [] ∧ ¬ (Q.1 = 0 ∧ Q.2 = 0) := by
 have A : partsP Q ≠ [] := fun e => by rw [e] at h; simp at h
 refine ⟨A, fun h2 => A ?_⟩
 unfold partsP
 rw [if_neg (by omega), if_neg (by omega)]
 rfl
theorem lop_other {G : LkG} {m : Nat → Bool} {k : Int} {R1 R2 : LR} {nn un : Nat} (hd : G.pn ≤ 63) (h8 : 8 ≤ k ∧ k ≤ 11) (i1 : InAll R1.P) (i2 : InAll R2.P) (hk : BoxE W lk (lkL G m)) (it : IvW R1.P t) (u1 : U64s W old tA ta t.l0) (u2 : U64s W old tB tb t.l1) (iu : IvW R2.P u) (u3 : U64s W old uA ua u.l0) (u4 : U64s W old uB ub u.l1) :
  Calls Tryz.prog 81 #[.pointer (some ⟨lk, 0, none⟩), .int .u8 k, .agg #[.bool t.n0, .bool t.s0, .slice tA t.l0.length ta, .bool t.n1, .bool t.s1, .slice tB t.l1.length tb, .slice FF nn ff], .agg #[.bool u.n0, .bool u.s0, .slice uA u.l0.length ua, .bool u.n1, .bool u.s1, .slice uB u.l1.length ub, .slice UF un uf]] W (LP lk G m (opR G.pn k R1 R2) W) := by
 have B := i1.n (N := 8) (by omega)
 have C := i2.n (N := 8) (by omega)
 have D : k = 8 ∨ k = 9 ∨ k = 10 ∨ k = 11 := by omega
 rcases D with rfl | rfl | rfl | rfl
 · rw [show opR G.pn 8 R1 R2 = othR (!(partsP R2.P).isEmpty) (keepIn (0, 0) R2.P) 3 (ivD R1.P R2.P) G.pn by simp [opR]]
   exact (lother_div_any hk hd it B iu C u1 u2 u3 u4 rfl rfl fun h => (ivD_ok B C (by omega) (by omega) (partsP_ne h).1).up (by omega)).mono fun _ _ h => LP.of_oth h
 · rw [show opR G.pn 9 R1 R2 = othR (!(partsP R2.P).isEmpty) (keepIn (0, 0) R2.P) 3 (modP R1.P R2.P) G.pn by simp [opR]]
   exact (lother_mod_any hk hd it B iu C u1 u2 u3 u4 rfl rfl fun h => (ivn_mod B C (partsP_ne h).2 (by omega)).up (by omega)).mono fun _ _ h => LP.of_oth h
 · rw [show opR G.pn 10 R1 R2 = othR (decide ((shK R2.P).1 ≤ (shK R2.P).2)) (!keepIn R2.P (0, 63)) 4 (shlP R1.P R2.P) G.pn by simp [opR]]
   exact (lother_shl_any hk hd it B iu C u1 u2 u3 u4 rfl rfl fun h => (ivM_ok B (shT_ok (of_decide_eq_true h)).1 (by omega)).up (by omega)).mono fun _ _ h => LP.of_oth h
 · rw [show opR G.pn 11 R1 R2 = othR (decide ((shK R2.P).1 ≤ (shK R2.P).2)) (!keepIn R2.P (0, 63)) 4 (shrP R1.P R2.P) G.pn by simp [opR]]
   exact (lother_shr_any hk hd it B iu C u1 u2 u3 u4 rfl rfl fun h => (ivn_shr (M := 1) B (shT_ok (of_decide_eq_true h)).2.1.1 (shT_ok (of_decide_eq_true h)).2.2.1 (by omega)).up (by omega)).mono fun _ _ h => LP.of_oth h
theorem lop_straight {G : LkG} {m : Nat → Bool} {k : Int} {R1 R2 : LR} (hd : G.pn ≤ 63) (h5 : 5 ≤ k ∧ k ≤ 7) (i1 : InAll R1.P) (i2 : InAll R2.P) (f1 : FmB (G.pn + 1) N R1.fs) (f2 : FmB (G.pn + 1) M R2.fs) (hN : N ≤ 3200) (hM : M ≤ 3200) (hk : BoxE W lk (lkL G m)) (it : IvW R1.P t) (u1 : U64s W old tA ta t.l0) (u2 : U64s W old tB tb t.l1) (v1 : IvsAt W old FF ff (fmOf R1.fs)) (iu : IvW R2.P u) (u3 : U64s W old uA ua u.l0) (u4 : U64s W old uB ub u.l1) (v2 : IvsAt W old UF uf (fmOf R2.fs)) :
  Calls Tryz.prog 82 #[.pointer (some ⟨lk, 0, none⟩), .int .u8 k, .agg #[.bool t.n0, .bool t.s0, .slice tA t.l0.length ta, .bool t.n1, .bool t.s1, .slice tB t.l1.length tb, .slice FF R1.fs.length ff], .agg #[.bool u.n0, .bool u.s0, .slice uA u.l0.length ua, .bool u.n1, .bool u.s1, .slice uB u.l1.length ub, .slice UF R2.fs.length uf]] W (LP lk G m (opR G.pn k R1 R2) W) := by
 have B := i1.n (N := 8) (by omega)
 have C := i2.n (N := 8) (by omega)
 have l1 := f1.len
 have H := f2.len
 have D : 1 ≤ R1.fs.length ∧ R1.fs.length ≤ 64 := by omega
 have E : R2.fs.length = R1.fs.length := by omega
 rw [← fmOf_len R1.fs, ← fmOf_len R2.fs]
 have F : k = 5 ∨ k = 6 ∨ k = 7 := by omega
 rcases F with rfl | rfl | rfl
 · rw [show opR G.pn 5 R1 R2 = rngR (ivA R1.P R2.P) (addLL R1.fs R2.fs) by simp [opR]]
   exact (lstraight_add5 hk v1 (f1.w hN) D v2 (f2.w hM) E it B u1 u2 iu C u3 u4 rfl).mono fun _ _ h => LP.of_rng rfl h
 · rw [show opR G.pn 6 R1 R2 = rngR (ivA R1.P (ivNg R2.P)) (addLL R1.fs (negL R2.fs)) by simp [opR]]
   exact (lstraight_sub6 hk v1 (f1.w hN) D v2 (f2.w hM) E it B u1 u2 iu C u3 u4 rfl).mono fun _ _ h => LP.of_rng rfl h
 · rw [show opR G.pn 7 R1 R2 = rngR (ivM R1.P R2.P) (if hangs (ivOf 0 0) (fmOf R2.fs) then scaL R2.fs R1.P else scaL R1.fs R2.P) by simp [opR]]
   exact (lstraight_mul7 hk v1 (f1.w hN) D v2 (f2.w hM) E it B u1 u2 iu C u3 u4 rfl).mono fun _ _ h => LP.of_rng rfl h
theorem exs_ne {w : World} {G : LkG} {m : Nat → Bool} {o : Nat} {l : List Ex} {AA : Nat → Option Addr} {CC : Nat → Nat} (hk : BoxE w lk (lkL G m)) (hj : j < l.length) (h4 : w.cell? ⟨b, o + j * 5 + 1, none⟩ = some (exC l AA CC j 1)) : lk ≠ b := fun hb => by
 subst hb
 rw [exC_1 hj] at h4
 have A := List.mem_of_getElem? (hk.cell h4)
 simp [lkL] at A
theorem lexpr_any {G : LkG} {B : LkB} {ps : List Iv} : ∀ {d : Nat} {x : Ex} {w : World} {A : Option Addr} {c : Nat} {m : Nat → Bool}, mayE (ps.length : Int) (G.na : Int) (d + 1) x = true → i64E (d + 1) x → twos (d + 1) x ≤ 2900 → BoxE w lk (lkL G m) → LkE w lk G B ps → ExsAt w d A c x.l →
  Calls Tryz.prog 31 #[.pointer (some ⟨lk, 0, none⟩), exV x A c] w (LP lk G m (lkE B (d + 1) x) w)
 | _, .mk k nm n [] p, w, A, c, m, hm, hi, ht, hk, E, hx => lexpr_leaf hm hi hk E
 | 0, .mk k nm n (a :: l) p, w, A, c, m, hm, hi, ht, hk, E, hx => by cases hx.1
 | d + 1, .mk k nm n [a] p, w, A, c, m, hm, hi, ht, hk, E, hx => by
   obtain ⟨hk1, hr, hl, ha⟩ := mayE_parts hm
   have T := ha a (by simp)
   have U := hi.2 a (by simp)
   have Y : ∀ n : Int, 0 ≤ n → n < (ps.length : Int) → InAll (B.bx n.toNat) := fun n h0 R => (E.bi n.toNat (by omega)).2
   have ta : twos (d + 1) a ≤ 2900 := by simpa [twos] using ht
   obtain ⟨Z, i, Kc, r⟩ := hx
   obtain ⟨b, o, rfl, Kj, F⟩ := Kc.row (by simp [Ex.l])
   have V : lk ≠ b := exs_ne (j := 0) (l := [a]) hk (by simp) (F 0 (by simp [Ex.l]) 1 (by omega))
   have J := F 0 (by simp [Ex.l]) 0 (by omega)
   have K := F 0 (by simp [Ex.l]) 1 (by omega)
   have L := F 0 (by simp [Ex.l]) 2 (by omega)
   have O := F 0 (by simp [Ex.l]) 3 (by omega)
   have Q := F 0 (by simp [Ex.l]) 4 (by omega)
   simp only [Nat.zero_mul, Nat.add_zero, Ex.l, exC, List.getElem?_cons_zero, if_true] at J K L O Q
   have R : ∀ W, w.grownBy W (some lk) → BoxE W lk (lkL G m) → Calls Tryz.prog 31 #[.pointer (some ⟨lk, 0, none⟩), exV a (Z 0) (i 0)] W (LP lk G m (lkE B (d + 1) a) W) := fun W H I =>
    lexpr_any T U ta I (E.kept hk H) ((r 0 (by simp [Ex.l])).kept hk H)
   have Kd := fun h => lkE_ok Y T U ta h
   have y : k = 3 ∨ k = 4 := by
    simp only [argsE, List.length_cons, List.length_nil] at hl
    split at hl
    · simp at hl
    · split at hl
      · assumption
      · simp at hl
   rcases y with rfl | rfl
   · simp only [rightE] at hr
     simp at hr
     obtain ⟨N, rfl⟩ : ∃ N : Nat, n = (N : Int) := ⟨n.toNat, by omega⟩
     have e : lkE B (d + 1 + 1) (.mk 3 nm (N : Int) [a] p) = seq1 (lkE B (d + 1) a) (loadR (lkE B (d + 1) a).P (B.sz N) G.pn) := by
      rw [lkE]
      simp only [if_true, E.pn, Int.toNat_natCast]
     rw [e]
     refine lexpr_load hk V J K L O Q R ?_
     rintro hR W t tA tB FF t1 t2 ff nn H I ⟨S, u1, u2, X, Kf⟩
     obtain ⟨r1, r2⟩ := Kd hR
     have EW := E.kept hk H
     obtain ⟨bS, oS, hS, Kk, Kl⟩ := EW.sz.row (by omega)
     have z : N < G.na := by omega
     exact (lload_any I E.pm S (r1.n (by omega)) u1 u2 hS z (E.sb (by omega) _ _ hS) Kk (by simpa using Kl N z 0 (by omega)) (E.si N z)).mono fun _ _ h => LP.of_load h
   · have e : lkE B (d + 1 + 1) (.mk 4 nm n [a] p) = seq1 (lkE B (d + 1) a) (rngR (ivNg (lkE B (d + 1) a).P) (negL (lkE B (d + 1) a).fs)) := by
      rw [lkE]
      have Kh : ¬ (4 : Int) = 3 := by decide
      simp only [if_neg Kh]
     rw [e]
     refine lexpr_neg hk V J K L O Q R ?_
     rintro hR W t tA tB FF t1 t2 ff nn H I ⟨S, u1, u2, X, Kf⟩
     obtain ⟨r1, r2⟩ := Kd hR
     have Ke := E.pn
     have Ki := E.pm
     have Km := r2.len
     subst X
     rw [← fmOf_len (lkE B (d + 1) a).fs]
     exact (lstraight_neg4 (q := zeroI) (C := none) (c := 0) (D := none) (d := 0) (FB := none) (M := 0) (fb := 0) I Kf (r2.w (by omega)) (by omega) S (r1.n (by omega)) u1 u2 rfl).mono fun _ _ h => LP.of_rng rfl h
 | d + 1, .mk k nm n (a :: b :: l) p, w, A, c, m, hm, hi, ht, hk, E, hx => by
   obtain ⟨hk1, hr, hl, ha⟩ := mayE_parts hm
   have y : 5 ≤ k ∧ l = [] := by
    simp only [argsE, List.length_cons] at hl
    split at hl
    · omega
    · split at hl
      · omega
      · exact ⟨by omega, List.eq_nil_of_length_eq_zero (by omega)⟩
   obtain ⟨h5, rfl⟩ := y
   have T := ha a (by simp)
   have mb := ha b (by simp)
   have U := hi.2 a (by simp)
   have ib := hi.2 b (by simp)
   have Y : ∀ n : Int, 0 ≤ n → n < (ps.length : Int) → InAll (B.bx n.toNat) := fun n h0 R => (E.bi n.toNat (by omega)).2
   replace ht : twos (d + 1) a + twos (d + 1) b + 1 ≤ 2900 := ht
   have Ka := fun h => lkE_ok Y T U (by omega) h
   have Kb := fun h => lkE_ok Y mb ib (by omega) h
   obtain ⟨Z, i, Kc, r⟩ := hx
   obtain ⟨g, o, rfl, Kj, F⟩ := Kc.row (by simp [Ex.l])
   have V : lk ≠ g := exs_ne (j := 0) (l := [a, b]) hk (by simp) (F 0 (by simp [Ex.l]) 1 (by omega))
   have J := F 0 (by simp [Ex.l]) 0 (by omega)
   have K := F 0 (by simp [Ex.l]) 1 (by omega)
   have L := F 0 (by simp [Ex.l]) 2 (by omega)
   have O := F 0 (by simp [Ex.l]) 3 (by omega)
   have Q := F 0 (by simp [Ex.l]) 4 (by omega)
   have j0 := F 1 (by simp [Ex.l]) 0 (by omega)
   have j1 := F 1 (by simp [Ex.l]) 1 (by omega)
   have j2 := F 1 (by simp [Ex.l]) 2 (by omega)
   have j3 := F 1 (by simp [Ex.l]) 3 (by omega)
   have j4 := F 1 (by simp [Ex.l]) 4 (by omega)
   simp only [Nat.zero_mul, Nat.one_mul, Nat.add_zero, Ex.l, exC, List.getElem?_cons_zero, List.getElem?_cons_succ, if_true] at J K L O Q j0 j1 j2 j3 j4
   have e : lkE B (d + 1 + 1) (.mk k nm n [a, b] p) = seqR (lkE B (d + 1) a) (lkE B (d + 1) b) (opR G.pn k (lkE B (d + 1) a) (lkE B (d + 1) b)) := by
    rw [lkE]
    simp only [E.pn]
   rw [e]
   show Calls Tryz.prog 31 #[.pointer (some ⟨lk, 0, none⟩), .agg #[.int .u8 k, .string nm, .int .i64 n, .slice (some ⟨g, o, none⟩) 2 c, .int .i64 p]] w _
   have R : ∀ W, w.grownBy W (some lk) → BoxE W lk (lkL G m) → Calls Tryz.prog 31 #[.pointer (some ⟨lk, 0, none⟩), exV a (Z 0) (i 0)] W (LP lk G m (lkE B (d + 1) a) W) := fun W H I =>
    lexpr_any T U (by omega) I (E.kept hk H) ((r 0 (by simp [Ex.l])).kept hk H)
   have h2 : (lkE B (d + 1) a).ok = true → ∀ W, w.grownBy W (some lk) → BoxE W lk (lkL G (orF m (lkE B (d + 1) a).mrk)) → Calls Tryz.prog 31 #[.pointer (some ⟨lk, 0, none⟩), exV b (Z 1) (i 1)] W (LP lk G (orF m (lkE B (d + 1) a).mrk) (lkE B (d + 1) b) W) := fun _ W H I =>
    lexpr_any mb ib (by omega) I (E.kept hk H) ((r 1 (by simp [Ex.l])).kept hk H)
   have Ke := E.pn
   have Ki := E.pm
   by_cases h8 : 8 ≤ k
   · refine lexpr_two hk V J K L O Q j0 j1 j2 j3 j4 (.inl ⟨rfl, h8, by omega⟩) R h2 ?_
     rintro s v W t u tA tB uA uB FF UF t1 t2 s1 s2 ff uf nn un H I ⟨S, u1, u2, X, v1⟩ ⟨iu, u3, u4, Kg, v2⟩
     exact lop_other E.pm ⟨h8, by omega⟩ (Ka s).1 (Kb v).1 I S u1 u2 iu u3 u4
   · refine lexpr_two hk V J K L O Q j0 j1 j2 j3 j4 (.inr ⟨rfl, h5, by omega⟩) R h2 ?_
     rintro s v W t u tA tB uA uB FF UF t1 t2 s1 s2 ff uf nn un H I ⟨S, u1, u2, X, v1⟩ ⟨iu, u3, u4, Kg, v2⟩
     subst X Kg
     have fa := (Ka s).2
     have fb := (Kb v).2
     rw [Ke] at fa fb
     exact lop_straight E.pm ⟨h5, by omega⟩ (Ka s).1 (Kb v).1 fa fb (by omega) (by omega) I S u1 u2 v1 iu u3 u4 v2
theorem edgeE_args {na : Int} {e : Ed} (h : edgeE V na nodes d e = true) : ∀ x ∈ e.l, mayE V na d x = true := by
 unfold edgeE deedE at h
 simp only [Bool.and_eq_true, List.all_eq_true] at h
 exact h.2.2
def MayH (V : Int) (na : Nat) (sz : Nat → Int) (d : Nat) (x : Ex) : Prop := (0 ≤ V ∧ V ≤ 32) ∧ na ≤ 4 ∧ (∀ j, j < na → 1 ≤ sz j ∧ sz j ≤ 16) ∧ mayE V na (d + 1) x = true
theorem alone2_says {sz : Nat → Int} {x : Ex} (h : SaysG V na sz 3 d (alone2 x)) : mayE V na d x = true :=
 edgeE_args (h.2.2.2 ⟨0, 2, 6, 0, 3, [x, x], 0⟩ (by simp [alone2])) x (by simp)
theorem lmay_any {w : World} {x : Ex} {sz : Nat → Int} (he : ExsAt w d A c x.l) (hA : RowK 1 w Aa ca na (fun j _ => .int .i64 (sz j))) :
  Calls Tryz.prog 30 #[.agg #[.int .i64 V, .slice Aa na ca, g2, g3, g4, g5], exV x A c] w fun e w' => ∃ b, e = .returned (.bool b) ∧ (b = true → mayE V na (d + 1) x = true) ∧ (MayH V na sz d x → b = true) ∧ Below w.heap.size w w' := by
 obtain ⟨k, nm, n, l, p⟩ := x
 obtain ⟨i0, hi, Kl, Km, Kn⟩ := info_parts infoEd
 have KN := he.len
 show Calls Tryz.prog 30 #[.agg #[.int .i64 V, .slice Aa na ca, g2, g3, g4, g5], .agg #[.int .u8 k, .string nm, .int .i64 n, .slice A l.length c, .int .i64 p]] w _
 obtain ⟨HE, HA⟩ := hid2 he hA
 obtain ⟨B, KI, Ko, KJ, Kp, Kq, Kr, Ks⟩ := al4 w [.int .i64 V, .slice Aa na ca, g2, g3, g4, g5] 25 [.int .u8 k, .string nm, .int .i64 n, .slice A l.length c, .int .i64 p] 29 [.int .i64 V, .slice Aa na ca, .int .i64 3, .int .i64 0, .int .i64 1, .slice none 0 0] 25 [.int .u8 3, .int .u8 6] 5
 obtain ⟨Z, i, m⟩ := hid3 Kp.b Kq.b Kr.b
 have Kf := Ks
 obtain ⟨F, G⟩ := hid2 Kf Ko
 clear KJ Kp Kq Kr Ks
 clear he hA Ko Kf
 go_enter Tryz.func30, Tryz.ntmps30
 go_wp2
 obtain ⟨o, q, s, v, y⟩ := Z.out.all5
 have k0 := m.out.c 0 _ rfl
 have Q := i.out.c 5 _ rfl
 clear KI
 have HP := hid (BoxL.new B [.int .u8 k, .string nm, .int .i64 n, .slice A l.length c, .int .i64 p, .int .u8 k, .string nm, .int .i64 n, .slice A l.length c, .int .i64 p] 29)
 refine wp_loop_rounds 3 ?_
 rw [rounds_succ]
 go_wp2_with (at_builtin; go_loud (refine wpList_appF _ rfl _ _ 23 rfl w.heap.size 73 i0 (.agg #[.int .i64 0, .int .i64 0, .int .u8 0, .int .i64 0, .int .u8 0, .slice none 0 0, .int .i64 0]) 7 72 Tryz.underlying23 hi Kl Km Kn rfl (by omega) (by omega) (.slice none 0 0) 0 [] rfl (World.ownsRow_nil _ _ _ _) _ [.int .i64 0, .int .i64 2, .int .u8 6, .int .i64 0, .int .u8 3, .slice (some ⟨B.heap.size, 0, none⟩) 2 2, .int .i64 0] rfl rfl (seven_newsG (by simp)) (by simp [Value.oneCell']) (by omega) (by have := G.out.size; simp; omega) ?_); intro v1 w5 hown1 hgrow1 hfresh1; obtain ⟨g1, z, rfl, KO, KP⟩ := own_slice hown1 (by omega); have K := hid ((((i.out).alloc (.cells #[.int .u8 k, .string nm, .int .i64 n, .slice A l.length c, .int .i64 p, .int .u8 k, .string nm, .int .i64 n, .slice A l.length c, .int .i64 p] 29)).alloc (.cells #[.int .i64 0, .int .i64 2, .int .u8 6, .int .i64 0, .int .u8 3, .slice (some ⟨B.heap.size, 0, none⟩) 2 2, .int .i64 0] 73)).keptR hgrow1 (by simp [Value.ownBlock])); have R := K.out.c 5 _ rfl; have S := K.out.f 5 _ rfl)
 have Kg : B.heap.size + 2 ≤ g1 := by
  rcases hfresh1 with e | e
  · simp [Value.ownBlock] at e
  · have := e g1 rfl
    simp at this
    omega
 have KE : (Value.slice none 0 0).ownBlock = none := rfl
 obtain ⟨Kt, Kv, Kw, Ka⟩ := hid4 ((((Z.out).alloc (.cells #[.int .u8 k, .string nm, .int .i64 n, .slice A l.length c, .int .i64 p, .int .u8 k, .string nm, .int .i64 n, .slice A l.length c, .int .i64 p] 29)).alloc (.cells #[.int .i64 0, .int .i64 2, .int .u8 6, .int .i64 0, .int .u8 3, .slice (some ⟨B.heap.size, 0, none⟩) 2 2, .int .i64 0] 73)).keptR hgrow1 (by simp [Value.ownBlock])) ((((m.out).alloc (.cells #[.int .u8 k, .string nm, .int .i64 n, .slice A l.length c, .int .i64 p, .int .u8 k, .string nm, .int .i64 n, .slice A l.length c, .int .i64 p] 29)).alloc (.cells #[.int .i64 0, .int .i64 2, .int .u8 6, .int .i64 0, .int .u8 3, .slice (some ⟨B.heap.size, 0, none⟩) 2 2, .int .i64 0] 73)).keptR hgrow1 (by simp [Value.ownBlock])) ((HP.out.alloc (.cells #[.int .i64 0, .int .i64 2, .int .u8 6, .int .i64 0, .int .u8 3, .slice (some ⟨B.heap.size, 0, none⟩) 2 2, .int .i64 0] 73)).keptR hgrow1 (by simp [Value.ownBlock])) (((G.out.alloc G.out.size (.cells #[.int .u8 k, .string nm, .int .i64 n, .slice A l.length c, .int .i64 p, .int .u8 k, .string nm, .int .i64 n, .slice A l.length c, .int .i64 p] 29)).alloc (by have := G.out.size; simp; omega) (.cells #[.int .i64 0, .int .i64 2, .int .u8 6, .int .i64 0, .int .u8 3, .slice (some ⟨B.heap.size, 0, none⟩) 2 2, .int .i64 0] 73)).grown hgrow1 (by have := G.out.size; simp; omega) (fun k e => by simp [Value.ownBlock] at e))
 have T := hgrow1.size
 simp only [World.size_alloc] at T
 obtain ⟨C, Kb⟩ : ∃ W, w5.setCell ⟨w.heap.size + 2, 5, none⟩ (.slice (some ⟨g1, 0, none⟩) 1 z) = W := ⟨_, rfl⟩
 have D : w5.grownBy C (some (w.heap.size + 2)) := by rw [← Kb]; exact grown_cell _ _ _ _
 have U : Hid (BoxL C (w.heap.size + 2) [.int .i64 V, .slice Aa na ca, .int .i64 3, .int .i64 0, .int .i64 1, .slice (some ⟨g1, 0, none⟩) 1 z]) := hid (by rw [← Kb]; exact K.out.set 5 _ rfl)
 obtain ⟨Kx, Ky, Kz, H, Kc, KA⟩ := hid6 (Kt.out.keptR D (by simp)) (Kv.out.keptR D (by simp)) (Kw.out.keptR D (by have := F.out; simp; omega)) (Ka.out.grown D Ka.out.size (fun k e => by injection e; omega)) (hown1.kept D (.inr (by have := F.out; simp [Value.ownBlock]; omega))) (Nat.le_trans T D.size)
 have L := hid Kg
 clear o q s v y k0 Q R S hown1 hgrow1 hfresh1 Kg KE T K Kt Kv Kw Ka D i Z m HP G
 obtain ⟨o, q, s, v, y⟩ := Kx.out.all5
 have k1 := Ky.out.c 1 _ rfl
 have Q := U.out.c 5 _ rfl
 have Kh := hid (BoxL.new C [.int .u8 k, .string nm, .int .i64 n, .slice A l.length c, .int .i64 p, .int .u8 k, .string nm, .int .i64 n, .slice A l.length c, .int .i64 p] 29)
 go_wp2
 rw [rounds_succ]
 go_wp2_with (at_builtin; go_loud (refine wpList_appF _ rfl _ _ 23 rfl w.heap.size 73 i0 (.agg #[.int .i64 0, .int .i64 0, .int .u8 0, .int .i64 0, .int .u8 0, .slice none 0 0, .int .i64 0]) 7 72 Tryz.underlying23 hi Kl Km Kn rfl (by omega) (by omega) (.slice (some ⟨g1, 0, none⟩) 1 z) 1 ([] ++ [.int .i64 0, .int .i64 2, .int .u8 6, .int .i64 0, .int .u8 3, .slice (some ⟨B.heap.size, 0, none⟩) 2 2, .int .i64 0]) rfl ((Kc.out.alloc (.cells #[.int .u8 k, .string nm, .int .i64 n, .slice A l.length c, .int .i64 p, .int .u8 k, .string nm, .int .i64 n, .slice A l.length c, .int .i64 p] 29)).alloc (.cells #[.int .i64 0, .int .i64 2, .int .u8 6, .int .i64 0, .int .u8 6, .slice (some ⟨C.heap.size, 0, none⟩) 2 2, .int .i64 0] 73)) _ [.int .i64 0, .int .i64 2, .int .u8 6, .int .i64 0, .int .u8 6, .slice (some ⟨C.heap.size, 0, none⟩) 2 2, .int .i64 0] rfl rfl (seven_newsG (by simp)) (by simp [Value.oneCell']) (by omega) (by have := H.out.size; simp; omega) ?_); intro v2 w7 hown2 hgrow2 hfresh2; obtain ⟨gB, O, rfl, KK, KL⟩ := own_slice hown2 (by omega); have M := hid ((((U.out).alloc (.cells #[.int .u8 k, .string nm, .int .i64 n, .slice A l.length c, .int .i64 p, .int .u8 k, .string nm, .int .i64 n, .slice A l.length c, .int .i64 p] 29)).alloc (.cells #[.int .i64 0, .int .i64 2, .int .u8 6, .int .i64 0, .int .u8 6, .slice (some ⟨C.heap.size, 0, none⟩) 2 2, .int .i64 0] 73)).keptR hgrow2 (by have := F.out; have := L.out; simp [Value.ownBlock]; omega)); have R := M.out.c 5 _ rfl; have S := M.out.f 5 _ rfl)
 have KF : B.heap.size + 2 ≤ gB := by
  rcases hfresh2 with e | e
  · have := L.out
    simp [Value.ownBlock] at e
    omega
  · have E := e gB rfl
    have h2 := KA.out
    simp at E
    omega
 have Ki := hid (((Kz.out.alloc (.cells #[.int .u8 k, .string nm, .int .i64 n, .slice A l.length c, .int .i64 p, .int .u8 k, .string nm, .int .i64 n, .slice A l.length c, .int .i64 p] 29)).alloc (.cells #[.int .i64 0, .int .i64 2, .int .u8 6, .int .i64 0, .int .u8 6, .slice (some ⟨C.heap.size, 0, none⟩) 2 2, .int .i64 0] 73)).keptR hgrow2 (by have := L.out; simp [Value.ownBlock]; omega))
 have Kj := hid ((Kh.out.alloc (.cells #[.int .i64 0, .int .i64 2, .int .u8 6, .int .i64 0, .int .u8 6, .slice (some ⟨C.heap.size, 0, none⟩) 2 2, .int .i64 0] 73)).keptR hgrow2 (by
  have E := (Kc.out.lt g1 rfl).2
  simp [Value.ownBlock]
  omega))
 have X := hid (((H.out.alloc H.out.size (.cells #[.int .u8 k, .string nm, .int .i64 n, .slice A l.length c, .int .i64 p, .int .u8 k, .string nm, .int .i64 n, .slice A l.length c, .int .i64 p] 29)).alloc (by have := H.out.size; simp; omega) (.cells #[.int .i64 0, .int .i64 2, .int .u8 6, .int .i64 0, .int .u8 6, .slice (some ⟨C.heap.size, 0, none⟩) 2 2, .int .i64 0] 73)).grown hgrow2 (by have := H.out.size; simp; omega) (fun k e => by have := L.out; have := F.out; simp [Value.ownBlock] at e; omega))
 obtain ⟨I, Kd⟩ : ∃ W, w7.setCell ⟨w.heap.size + 2, 5, none⟩ (.slice (some ⟨gB, 0, none⟩) 2 O) = W := ⟨_, rfl⟩
 have J : w7.grownBy I (some (w.heap.size + 2)) := by rw [← Kd]; exact grown_cell _ _ _ _
 have KG : Hid (BoxL I (w.heap.size + 2) [.int .i64 V, .slice Aa na ca, .int .i64 3, .int .i64 0, .int .i64 1, .slice (some ⟨gB, 0, none⟩) 2 O]) := hid (by rw [← Kd]; exact M.out.set 5 _ rfl)
 obtain ⟨KB, KC, P, Ke⟩ := hid4 (Ki.out.keptR J (by have := F.out; simp; omega)) (Kj.out.keptR J (by have := F.out; have := KA.out; simp; omega)) (X.out.grown J X.out.size (fun k e => by injection e; omega)) (hown2.kept J (.inr (by have := F.out; simp [Value.ownBlock]; omega)))
 have Kk : Hid (EdsAt I (d + 1) (some ⟨gB, 0, none⟩) O (alone2 (.mk k nm n l p)) _ _) := hid (edrow (a := B.heap.size) (b := C.heap.size) (fun j u hj => by have E := Ke.out.cells (g := gB) rfl j u hj; rw [Addr.add_lit, Nat.zero_add] at E; exact E) (Ke.out.lt gB rfl).2 KK (by simp only [maxLen] at KL; omega) (pair_at KB.out (HE.out.below P.out)) (pair_at KC.out (HE.out.below P.out)))
 have KH : Hid (Calls Tryz.prog 27 #[.agg #[.int .i64 V, .slice Aa na ca, .int .i64 3, .int .i64 0, .int .i64 1, .slice (some ⟨gB, 0, none⟩) 2 O]] I fun r w' => ∃ N, r = .returned (.int .i64 N) ∧ (N = 0 → mayE V na (d + 1) (.mk k nm n l p) = true) ∧ (MayH V na sz d (.mk k nm n l p) → N = 0) ∧ Below I.heap.size I w') := hid (by
  have h := fcheck_any (V := V) (nodes := 3) (start := 0) (last := 1) Kk.out (HA.out.below P.out)
  exact h.mono fun e w' ⟨n, E, h2, h4, h3⟩ => ⟨n, E, fun h0 => alone2_says (h2 h0), fun h5 => h4 ⟨alone2_ok h5.1 h5.2.1 h5.2.2.2, h5.2.2.1⟩, h3⟩)
 obtain ⟨Y, t1, t2, t3, t4, t5⟩ := KG.out.all6
 clear o q s v y k1 Q R S hown2 hgrow2 hfresh2 KF J M Ki Kj X Kc U Kx Ky Kz H Kh Ke Kk KB KC
 go_wp2
 rw [rounds_succ]
 go_wp2_with fail
 refine KH.out.mono ?_
 rintro e w9 ⟨N, rfl, hs, KD, hc⟩
 have hb := from_ P.out hc
 obtain ⟨HS, KM⟩ := hid2 hs KD
 clear Kb Kd Y t1 t2 t3 t4 t5 hs KD hc
 by_cases h0 : N = 0
 · have Y : (N == 0) = true := beq_iff_eq.2 h0
   have HM := hid (HS.out h0)
   clear h0 HS
   go_wp2
   go_ret
   exact ⟨_, rfl, fun _ => HM.out, fun _ => rfl, hb⟩
 · have Y : (N == 0) = false := beq_eq_false_iff_ne.2 h0
   have H0 := hid h0
   clear h0 HS
   go_wp2
   go_ret
   exact ⟨_, rfl, (fun h => by cases h), (fun h => absurd (KM.out h) H0.out), hb⟩
theorem any_not_all {α : Type} {l : List α} {f : α → Bool} : ((List.range l.length).any fun j => !((l[j]?).map f).getD false) = !l.all f := by
 rw [Bool.eq_iff_iff]
 simp only [Bool.not_eq_true', List.all_eq_false]
 constructor
 · intro h
   obtain ⟨j, A, e⟩ := any_lt.1 h
   rw [List.getElem?_eq_getElem A] at e
   exact ⟨_, List.getElem_mem A, by simpa using e⟩
 · rintro ⟨x, B, e⟩
   obtain ⟨j, A, rfl⟩ := List.getElem_of_mem B
   exact any_lt.2 ⟨j, A, by rw [List.getElem?_eq_getElem A]; simpa using e⟩
def SaysYes (S A : Prop) (w : World) (e : Ending) (w' : World) : Prop := ∃ b, e = .returned (.bool b) ∧ (b = true → S) ∧ (A → b = true) ∧ Below w.heap.size w w'
def Asc (l V : Int) (pk : Nat → Int) (n : Nat) : Prop := ∀ j, j < n → (if j = 0 then l else pk (j - 1)) < pk j ∧ pk j < V
def inb (p : Iv) : Bool := p.ok && decide (allP.1 ≤ p.lo ∧ p.hi ≤ allP.2)
theorem lboxed1_of {w : World} {p : Iv} {R : Bool} {E : Int} (hE : E = 0 ∨ (E = 8 ∧ R = false)) (hq : IvW allP q)
  (hK : ∀ (W : World) (h : Below w.heap.size w W) (C D : Option Addr) (c d : Nat) (K : Nat) (u3 : U64s W (new K) C c q.l0) (u4 : U64s W (new K) D d q.l1), Calls Tryz.prog 10 #[.agg #[.bool p.n0, .bool p.s0, .slice A p.l0.length a, .bool p.n1, .bool p.s1, .slice B p.l1.length b], .agg #[.bool q.n0, .bool q.s0, .slice C q.l0.length c, .bool q.n1, .bool q.s1, .slice D q.l1.length d]] W fun e w' => e = .returned (.tuple #[.bool R, .int .i64 E]) ∧ Below W.heap.size W w') :
  Calls Tryz.prog 75 #[.agg #[.bool p.n0, .bool p.s0, .slice A p.l0.length a, .bool p.n1, .bool p.s1, .slice B p.l1.length b]] w fun e w' => e = .returned (.bool (!R)) ∧ Below w.heap.size w w' := by
 have G : Below w.heap.size w (w.alloc (.cells #[.bool p.n0, .bool p.s0, .slice A p.l0.length a, .bool p.n1, .bool p.s1, .slice B p.l1.length b] 39)) := (Below.refl _ w).alloc (Nat.le_refl _) _
 obtain ⟨F, L⟩ : ∃ W, w.alloc (.cells #[.bool p.n0, .bool p.s0, .slice A p.l0.length a, .bool p.n1, .bool p.s1, .slice B p.l1.length b] 39) = W := ⟨_, rfl⟩
 rw [L] at G
 have H : Hid (Box6 F w.heap.size (.bool p.n0) (.bool p.s0) (.slice A p.l0.length a) (.bool p.n1) (.bool p.s1) (.slice B p.l1.length b)) := hid (by rw [← L]; exact Box6.new w _ _ _ _ _ _ _)
 obtain ⟨Y, M, N⟩ := hid3 G (lall_r (w := F.drew) hq) hK
 have T := H.out.all
 clear G hK hq
 have U : (E = 0 ∧ R = true) ∨ (E = 0 ∧ R = false) ∨ (E = 8 ∧ R = false) := by
  cases R
  · rcases hE with h | h
    · exact .inr (.inl ⟨h, rfl⟩)
    · exact .inr (.inr ⟨h.1, rfl⟩)
  · rcases hE with h | h
    · exact .inl ⟨h, rfl⟩
    · cases h.2
 clear hE
 rcases U with ⟨rfl, rfl⟩ | ⟨rfl, rfl⟩ | ⟨rfl, rfl⟩
 all_goals
  go_enter Tryz.func75, Tryz.ntmps75
  go_wp2
  clear L
  first | go_region_with (first
   | (go_at_call 11; with_reducible refine M.out.mono ?_; rintro e w2 ⟨C, c, D, d, rfl, O, P, Q⟩; have I : Below F.heap.size F w2 := from_ ((Below.refl F.heap.size F).drew) Q; have J := from_ Y.out I; have V := (H.out.below I).all)
   | (go_at_call 10; with_reducible refine (N.out _ J _ _ _ _ _ O P).mono ?_; rintro e Z ⟨rfl, S⟩; have X := hid (from_ J S))) | fail
  all_goals
   clear V T O P Q I J S N M H
   go_wp2
   go_ret
   exact ⟨rfl, X.out⟩
theorem allP_ok (hq : IvW allP q) : q.ok = true ∧ q.l0.length ≤ 6000 ∧ q.l1.length ≤ 6000 := by
 have k := hq.k allP_n (by omega)
 exact ⟨k.ok, by have := k.q0; omega, by have := k.q1; omega⟩
theorem lboxed1_any {w : World} {p : Iv} (u1 : U64s w Z1 A a p.l0) (u2 : U64s w Z2 B b p.l1) (g1 : p.l0.length ≤ 6000) (g2 : p.l1.length ≤ 6000) :
  Calls Tryz.prog 75 #[.agg #[.bool p.n0, .bool p.s0, .slice A p.l0.length a, .bool p.n1, .bool p.s1, .slice B p.l1.length b]] w fun e w' => e = .returned (.bool (!inb p)) ∧ Below w.heap.size w w' := by
 obtain ⟨q, F⟩ : ∃ r, IvW allP r := ⟨_, IvW.mk _⟩
 obtain ⟨M, H, I⟩ := allP_ok F
 cases ho : p.ok with
 | true =>
   obtain ⟨J, L⟩ := itwJ_of ho u1.small u2.small g1 g2 (Nat.le_refl _)
   have e : inb p = decide (allP.1 ≤ p.lo ∧ p.hi ≤ allP.2) := by unfold inb; rw [ho, Bool.true_and]
   rw [e]
   exact lboxed1_of (E := 0) (.inl rfl) F fun W h C D c d K u3 u4 => iin_w (w := W) (P := (p.lo, p.hi)) J L F allP_n (u1.below h) (u2.below h) u3 u4 rfl
 | false =>
   have e : inb p = false := by unfold inb; rw [ho, Bool.false_and]
   rw [e]
   exact lboxed1_of (E := 8) (.inr ⟨rfl, rfl⟩) F fun W h C D c d K u3 u4 => iin_bad (w := W) (u1.below h) (u2.below h) u3 u4 g1 g2 H I (fun h => by have G : p.ok = true := h.1; rw [ho] at G; cases G)
theorem lboxed_any {w : World} {ps : List Iv} (hr : IvsAt w Z A ca ps) (hl : ∀ p ∈ ps, p.l0.length ≤ 6000 ∧ p.l1.length ≤ 6000) :
  Calls Tryz.prog 28 #[.agg #[.int .i64 V, g1, g2, g3, g4, g5], .slice A ps.length ca] w fun e w' => e = .returned (.bool (decide ((ps.length : Int) = V) && ps.all inb)) ∧ Below w.heap.size w w' := by
 have B : Below w.heap.size w (w.alloc (.cells #[.int .i64 V, g1, g2, g3, g4, g5] 25)) := (Below.refl _ w).alloc (Nat.le_refl _) _
 obtain ⟨T, F, G⟩ := hr.rows
 have C := scontains_itv (caps := #[]) (f := fun j => !((ps[j]?).map inb).getD false) goes34 (F.below B) fun j hj W hW => by
  obtain ⟨u1, u2⟩ := G j hj
  have D := hl _ (List.getElem_mem hj)
  rw [ivC_at hj]
  have e : ((ps[j]?).map inb).getD false = inb ps[j] := by rw [List.getElem?_eq_getElem hj]; rfl
  rw [e]
  exact lboxed1_any ((u1.below B).below hW) ((u2.below B).below hW) D.1 D.2
 have E := any_not_all (l := ps) (f := inb)
 rw [E] at C
 have N := hr.len
 obtain ⟨M, H⟩ := hid2 C B
 clear C B hr F G hl E
 generalize ps.all inb = R at *
 generalize ps.length = L at *
 by_cases h : (L : Int) = V
 · rw [decide_eq_true h, Bool.true_and]
   have J : ((L : Int) == V) = true := beq_iff_eq.2 h
   clear h
   go_enter Tryz.func28, Tryz.ntmps28
   go_wp2_with fail
   refine M.out.mono ?_
   rintro e O ⟨rfl, I⟩
   have K := from_ H.out I
   clear I
   cases R
   all_goals
    go_wp2
    go_ret
    exact ⟨rfl, K⟩
 · rw [decide_eq_false h, Bool.false_and]
   have J : ((L : Int) == V) = false := beq_eq_false_iff_ne.2 h
   clear h
   go_enter Tryz.func28, Tryz.ntmps28
   go_wp2
   go_ret
   exact ⟨rfl, H.out⟩
theorem lpacked1_any {w : World} {n l : Int} (hl : w.cell? ⟨gl, 0, none⟩ = some (.int .i64 l)) (hf : w.frozen? ⟨gl, 0, none⟩ = false) (hg : w.cell? ⟨gg, 0, none⟩ = some (.int .i64 V)) :
  Calls Tryz.prog 76 #[.int .i64 n, .pointer (some ⟨gl, 0, none⟩), .pointer (some ⟨gg, 0, none⟩)] w fun e w' => e = .returned (.bool (decide (n ≤ l) || decide (V ≤ n))) ∧ w' = w.setCell ⟨gl, 0, none⟩ (.int .i64 n) := by
 by_cases h1 : n ≤ l
 · rw [decide_eq_true h1, Bool.true_or]
   have B : decide (n ≤ l) = true := decide_eq_true h1
   go_enter Tryz.func76, Tryz.ntmps76
   go_wp2
   go_ret
   exact ⟨rfl, rfl⟩
 · have B : decide (n ≤ l) = false := decide_eq_false h1
   rw [B, Bool.false_or]
   obtain ⟨t, C⟩ : ∃ t, decide (V ≤ n) = t := ⟨_, rfl⟩
   rw [C]
   go_enter Tryz.func76, Tryz.ntmps76
   go_wp2
   go_ret
   exact ⟨rfl, rfl⟩
theorem lpindex_any {w : World} {n : Nat} {pk : Nat → Int} {l : Int} (ha : RowK 1 w A c n (fun j _ => .int .i64 (pk j))) (hA : 0 < n → ∀ b o, A = some ⟨b, o, none⟩ → b ≠ gl) (hl : w.cell? ⟨gl, 0, none⟩ = some (.int .i64 l)) (h1 : -1 ≤ l) (hf : w.frozen? ⟨gl, 0, none⟩ = false) (hg : w.cell? ⟨gg, 0, none⟩ = some (.int .i64 V)) (hne : gg ≠ gl) :
  Calls Tryz.prog 112 #[.slice A n c, .func (.func 76) #[] #[.pointer (some ⟨gl, 0, none⟩), .pointer (some ⟨gg, 0, none⟩)]] w fun e w' => ∃ r, e = .returned (.int .i64 r) ∧ (r < 0 → ∀ j, j < n → 0 ≤ pk j ∧ pk j < V) ∧ (Asc l V pk n → r < 0) ∧ w.grownBy w' (some gl) := by
 have y := ha.len
 have Q := lt_of_cell hl
 have L := lt_of_cell hg
 obtain ⟨d, g, m⟩ := hid3 ha hA (And.intro L hne)
 have R : Hid (w.cell? ⟨gl, 0, none⟩ = some (.int .i64 l) ∧ w.frozen? ⟨gl, 0, none⟩ = false ∧ w.cell? ⟨gg, 0, none⟩ = some (.int .i64 V)) := hid ⟨hl, hf, hg⟩
 clear ha hA hl hf hg hne Q L
 go_enter Tryz.func112, Tryz.ntmps112
 go_wp2
 go_loopw [8] (fun i wr => ∃ (k : Nat) (C : Int), k ≤ n ∧ i = .int .i64 k ∧ -1 ≤ C ∧ Hid (wr.cell? ⟨gl, 0, none⟩ = some (.int .i64 C) ∧ wr.frozen? ⟨gl, 0, none⟩ = false ∧ wr.cell? ⟨gg, 0, none⟩ = some (.int .i64 V)) ∧ Hid (w.grownBy wr (some gl)) ∧ Hid (∀ j, j < k → 0 ≤ pk j ∧ pk j < V) ∧ Hid (C = if k = 0 then l else pk (k - 1))) (fun i _ => n - (intOf i).toNat)
 case atStart => exact ⟨0, l, Nat.zero_le _, rfl, h1, R, hid ⟨rfl, rfl, rfl, Nat.le_refl _, fun _ _ _ => rfl⟩, hid fun j h => absurd h (by omega), hid (by simp)⟩
 case round =>
  obtain ⟨k, C, z, rfl, Ka, B, F, P, q⟩ := hrel
  by_cases hlt : k < n
  · obtain ⟨b, o, rfl, s, u⟩ := (d.out.keptR F.out g.out).at1 hlt
    obtain ⟨v, J⟩ : ∃ v, pk k = v := ⟨_, rfl⟩
    rw [J] at u
    obtain ⟨G, K⟩ := hid2 (lpacked1_any (n := v) B.out.1 B.out.2.1 B.out.2.2) J
    obtain ⟨H, D⟩ : ∃ W, wr.setCell ⟨gl, 0, none⟩ (.int .i64 v) = W := ⟨_, rfl⟩
    have I : wr.grownBy H (some gl) := by rw [← D]; exact grown_cell _ _ _ _
    have M := hid (F.out.trans I)
    have S : Hid (H.cell? ⟨gl, 0, none⟩ = some (.int .i64 v) ∧ H.frozen? ⟨gl, 0, none⟩ = false ∧ H.cell? ⟨gg, 0, none⟩ = some (.int .i64 V)) := hid (by
     refine ⟨?_, ?_, ?_⟩
     · rw [← D]; exact World.cell?_setCell_same _ _ _ B.out.1
     · rw [← D, World.frozen?_setCell]; exact B.out.2.1
     · exact (World.cell?_of_block (a := ⟨gg, 0, none⟩) (I.block gg (lt_of_cell B.out.2.2) (by have := m.out.2; simp; omega))).trans B.out.2.2)
    rw [D] at G
    clear J B F I s D
    obtain ⟨t, E⟩ : ∃ t, (decide (v ≤ C) || decide (V ≤ v)) = t := ⟨_, rfl⟩
    rw [E] at G
    have T : Hid (Asc l V pk n → t = false) := hid fun h => by
     have U := h k hlt
     rw [← q.out, K.out] at U
     rw [← E, decide_eq_false (by omega), decide_eq_false (by omega)]
     rfl
    have X : t = true ∨ t = false := by cases t <;> simp
    rcases X with rfl | rfl
    · clear E
      go_wp2_with fail
      refine G.out.mono ?_
      rintro e x ⟨rfl, rfl⟩
      go_wp2
      go_ret
      exact ⟨_, rfl, fun h => absurd h (by omega), (fun h => by have Y := T.out h; simp at Y), M.out⟩
    · have Z := hid E
      clear E
      go_wp2_with fail
      refine G.out.mono ?_
      rintro e x ⟨rfl, rfl⟩
      have N : -1 ≤ v ∧ 0 ≤ v ∧ v < V := by
       have h := Z.out
       simp only [Bool.or_eq_false_iff, decide_eq_false_iff_not] at h
       omega
      have O := hid N
      clear N
      go_wp2
      go_roundw
      case rel => exact ⟨k + 1, v, by omega, by go_num, O.out.1, S, M, hid fun j hj => by
       rcases Nat.lt_or_ge j k with h | h
       · exact P.out j h
       · obtain rfl : j = k := by omega
         rw [K.out]
         exact O.out.2, hid (by rw [if_neg (by omega)]; exact K.out.symm)⟩
      case measure => simp [intOf]; omega
  · obtain rfl : k = n := by omega
    clear B
    go_wp2
    go_ret
    exact ⟨_, rfl, fun _ => P.out, fun _ => by omega, F.out⟩
theorem lpcontains_any {w : World} {n : Nat} {pk : Nat → Int} {l : Int} (ha : RowK 1 w A c n (fun j _ => .int .i64 (pk j))) (hA : 0 < n → ∀ b o, A = some ⟨b, o, none⟩ → b ≠ gl) (hl : w.cell? ⟨gl, 0, none⟩ = some (.int .i64 l)) (h1 : -1 ≤ l) (hf : w.frozen? ⟨gl, 0, none⟩ = false) (hg : w.cell? ⟨gg, 0, none⟩ = some (.int .i64 V)) (hne : gg ≠ gl) :
  Calls Tryz.prog 67 #[.slice A n c, .func (.func 76) #[] #[.pointer (some ⟨gl, 0, none⟩), .pointer (some ⟨gg, 0, none⟩)]] w fun e w' => ∃ b, e = .returned (.bool b) ∧ (b = false → ∀ j, j < n → 0 ≤ pk j ∧ pk j < V) ∧ (Asc l V pk n → b = false) ∧ w.grownBy w' (some gl) := by
 have E := hid (lpindex_any ha hA hl h1 hf hg hne)
 clear ha hA hl h1 hf hg hne
 go_enter Tryz.func67, Tryz.ntmps67
 go_wp2_with fail
 refine E.out.mono ?_
 rintro e I ⟨r, rfl, B, C, D⟩
 obtain ⟨F, G, H⟩ := hid3 B C D
 clear B C D
 go_wp2
 go_ret
 exact ⟨_, rfl, fun h => F.out (by have := of_decide_eq_false h; omega), fun h => decide_eq_false (by have := G.out h; omega), H.out⟩
theorem lpacked_any {w : World} {n : Nat} {pk : Nat → Int} (ha : RowK 1 w A c n (fun j _ => .int .i64 (pk j))) :
  Calls Tryz.prog 29 #[.agg #[.int .i64 V, g1, g2, g3, g4, g5], .slice A n c] w (SaysYes (n ≤ 6 ∧ ∀ j, j < n → 0 ≤ pk j ∧ pk j < V) (n ≤ 6 ∧ Asc (-1) V pk n) w) := by
 have C : Below w.heap.size w (w.alloc (.cells #[.int .i64 V, g1, g2, g3, g4, g5] 25)) := (Below.refl _ w).alloc (Nat.le_refl _) _
 have D := C.alloc C.size (.cells #[.int .i64 (-1)] 3)
 have F := (Below.refl (w.alloc (.cells #[.int .i64 V, g1, g2, g3, g4, g5] 25)).heap.size (w.alloc (.cells #[.int .i64 V, g1, g2, g3, g4, g5] 25))).alloc (Nat.le_refl _) (.cells #[.int .i64 (-1)] 3)
 have G := keepC F (Box6.new w (.int .i64 V) g1 g2 g3 g4 g5 25).c0
 have H : ((w.alloc (.cells #[.int .i64 V, g1, g2, g3, g4, g5] 25)).alloc (.cells #[.int .i64 (-1)] 3)).cell? ⟨w.heap.size + 1, 0, none⟩ = some (.int .i64 (-1)) := cell_newest (by simp) rfl
 have R := ha.len
 have I := lpcontains_any (ha.below D) (gl := w.heap.size + 1) (gg := w.heap.size) (fun h0 b o e hb => by
  obtain ⟨S, T, B, U, _⟩ := ha.row h0
  rw [e] at B
  injection B with B
  injection B with e1 _
  omega) H (by omega) (by simp) G (by omega)
 obtain ⟨O, E⟩ := hid2 I D
 clear C F G H ha I D
 by_cases h6 : n ≤ 6
 · go_enter Tryz.func29, Tryz.ntmps29
   go_wp2_with fail
   refine O.out.mono ?_
   rintro e W ⟨b, rfl, K, L, M⟩
   obtain ⟨P, Q⟩ := hid2 K L
   have J := E.out.grown M E.out.size (fun k e => by injection e; omega)
   clear K L M
   cases b
   · go_wp2
     go_ret
     exact ⟨_, rfl, fun _ => ⟨h6, P.out (by first | rfl | trivial)⟩, fun _ => rfl, J⟩
   · go_wp2
     go_ret
     exact ⟨_, rfl, (fun h => by cases h), (fun h => by have N := Q.out h.2; simp at N), J⟩
 · go_enter Tryz.func29, Tryz.ntmps29
   go_wp2
   go_ret
   exact ⟨_, rfl, (fun h => by cases h), (fun h => by first | exact h.elim | exact absurd h.1 h6), E.out⟩
def ivF (ps : List Iv) (T : Nat → (Option Addr × Nat) × Option Addr × Nat) : List Value := List.ofFn fun k : Fin (ps.length * 6) => ivC ps T (k.val / 6) (k.val % 6)
theorem ivF_len (ps : List Iv) (T : Nat → (Option Addr × Nat) × Option Addr × Nat) : (ivF ps T).length = ps.length * 6 := by simp [ivF]
theorem ivF_at {ps : List Iv} {T : Nat → (Option Addr × Nat) × Option Addr × Nat} (hj : j < ps.length) (hi : i < 6) : (ivF ps T)[j * 6 + i]? = some (ivC ps T j i) := by
 have A : j * 6 + i < ps.length * 6 := by omega
 have B : (j * 6 + i) / 6 = j := by omega
 have C : (j * 6 + i) % 6 = i := by omega
 simp [ivF, List.getElem?_ofFn, A, B, C]
theorem ivF_get {ps : List Iv} {T : Nat → (Option Addr × Nat) × Option Addr × Nat} {k : Nat} {u : Value} (h : (ivF ps T)[k]? = some u) : k < ps.length * 6 ∧ u = ivC ps T (k / 6) (k % 6) := by
 have A : k < (ivF ps T).length := (List.getElem?_eq_some_iff.1 h).1
 rw [ivF_len] at A
 refine ⟨A, ?_⟩
 simp [ivF, List.getElem?_ofFn, A] at h
 exact h.symm
theorem ivC_one {ps : List Iv} {T : Nat → (Option Addr × Nat) × Option Addr × Nat} (hj : j < ps.length) : (ivC ps T j i).oneCell' = true := by
 unfold ivC
 rw [List.getElem?_eq_getElem hj]
 dsimp only
 repeat' split
 all_goals rfl
theorem lclone_any {w : World} {ps : List Iv} (ha : IvsAt w Z A c ps) (h1 : 1 ≤ ps.length) (h64 : ps.length ≤ 64) :
  Calls Tryz.prog 33 #[.slice A ps.length c] w fun e w' => ∃ F f, e = .returned (.slice F ps.length f) ∧ IvsAt w' Z F f ps ∧ NewA w.heap.size F ∧ Below w.heap.size w w' := by
 obtain ⟨s, hi, v, x, y⟩ := info_parts infoIv
 obtain ⟨T, O, Q⟩ := ha.rows
 obtain ⟨b, o, rfl, Kb, R⟩ := O.row (by omega)
 have G := Lib.run_eql_slice_nil (P := Tryz.prog) w 40 39 (some ⟨b, o, none⟩) ps.length c 0 0 Tryz.underlying40
 have H : ∀ j u, (ivF ps T)[j]? = some u → (w.alloc (.cells #[] 39)).cell? ((⟨b, o, none⟩ : Addr).add j) = some u := by
  intro k u h
  have W := (Below.refl w.heap.size w).alloc (Nat.le_refl _) (.cells #[] 39)
  rw [Addr.add_lit]
  obtain ⟨B, rfl⟩ := ivF_get h
  have I := R (k / 6) (by omega) (k % 6) (by omega)
  rw [show o + k / 6 * 6 + k % 6 = o + k by omega] at I
  exact keepC W I
 have J : ∀ u ∈ ivF ps T, u.oneCell' = true := by
  intro u hu
  obtain ⟨k, B, rfl⟩ := List.getElem_of_mem hu
  obtain ⟨Kc, e⟩ := ivF_get (List.getElem?_eq_getElem B)
  rw [e]
  exact ivC_one (by omega)
 have D := ivF_len ps T
 have K : (w.alloc (.cells #[] 39)).ownsRow w.heap.size 39 6 (.slice (some ⟨w.heap.size, 0, none⟩) 0 0) 0 [] := World.ownsRow_made w #[] 0 (Nat.le_refl _) (by simp [maxLen]) rfl
 obtain ⟨z, S, U⟩ := hid3 Q H J
 have L : Hid (∀ j i, j < ps.length → i < 6 → (ivF ps T)[j * 6 + i]? = some (ivC ps T j i)) := hid fun j i hj hi => ivF_at hj hi
 clear ha O Q R H J
 obtain ⟨NW, V⟩ : ∃ l, ivF ps T = l := ⟨_, rfl⟩
 rw [V] at S U L D
 obtain ⟨n, C⟩ : ∃ n, ps.length = n := ⟨_, rfl⟩
 have X := hid C
 rw [C] at h1 h64 D G
 rw [C]
 clear V C
 go_enter Tryz.func33, Tryz.ntmps33
 go_wp2_with (at_builtin; go_loud (refine wpList_append_own _ rfl _ _ 40 rfl w.heap.size 39 s (.agg #[.bool false, .bool false, .slice none 0 0, .bool false, .bool false, .slice none 0 0]) 6 80 Tryz.underlying40 hi v x y rfl (by omega) (.slice (some ⟨w.heap.size, 0, none⟩) 0 0) 0 [] rfl K ⟨b, o, none⟩ n c NW rfl D S.out U.out (by simp only [maxLen]; omega) (by omega) (by simp) ?_); intro v' w2 hown hgrow hnil)
 have Y : (w.alloc (.cells #[] 39)).grownBy w2 (some w.heap.size) := hgrow
 have a : Below w.heap.size w (w.alloc (.cells #[] 39)) := (Below.refl _ w).alloc (Nat.le_refl _) _
 have E : Below w.heap.size w w2 := a.grown Y (by simp) (fun k B => by cases B; exact Nat.le_refl _)
 rw [Nat.zero_add] at hown
 obtain ⟨g, Ka, rfl, h3, h4⟩ := own_slice hown (by omega)
 have d := hown.lt g rfl
 have M := hown.cells (g := g) rfl
 have m : IvsAt w2 Z (some ⟨g, 0, none⟩) Ka ps := by
  refine ⟨by rw [X.out]; exact h3, by simp only [maxLen] at h4; omega, fun _ => ⟨g, 0, rfl, d.2, fun j hj => ?_⟩⟩
  have q := fun (i : Nat) (h : i < 6) => (by have N := M (j * 6 + i) _ (L.out j i hj h); rw [Addr.add_lit, Nat.zero_add] at N; exact N : w2.cell? ⟨g, j * 6 + i, none⟩ = some (ivC ps T j i))
  obtain ⟨u0, u1⟩ := z.out j hj
  have e : ps[j]? = some ps[j] := List.getElem?_eq_getElem hj
  refine ⟨(T j).1.1, (T j).1.2, (T j).2.1, (T j).2.2, ⟨?_, ?_, ?_, ?_, ?_, ?_⟩, u0.below E, u1.below E⟩
  · simpa [ivC, e] using q 0 (by omega)
  · simpa [ivC, e] using q 1 (by omega)
  · simpa [ivC, e] using q 2 (by omega)
  · simpa [ivC, e] using q 3 (by omega)
  · simpa [ivC, e] using q 4 (by omega)
  · simpa [ivC, e] using q 5 (by omega)
 have r : NewA w.heap.size (some ⟨g, 0, none⟩) := fun b o e => by injection e with e; injection e with e _; omega
 clear hown hgrow hnil K G M
 go_ret
 exact ⟨_, _, rfl, m, r, E⟩
theorem grown_set9 (W : World) (g : Nat) (x0 x1 x2 x3 x4 x5 x6 x7 x8 : Value) : W.grownBy (((((((((W.setCell ⟨g, 0, none⟩ x0).setCell ⟨g, 1, none⟩ x1).setCell ⟨g, 2, none⟩ x2).setCell ⟨g, 3, none⟩ x3).setCell ⟨g, 4, none⟩ x4).setCell ⟨g, 5, none⟩ x5).setCell ⟨g, 6, none⟩ x6).setCell ⟨g, 7, none⟩ x7).setCell ⟨g, 8, none⟩ x8) (some g) :=
 ((((((((grown_set W g 0 x0).trans (grown_set _ g 1 x1)).trans (grown_set _ g 2 x2)).trans (grown_set _ g 3 x3)).trans (grown_set _ g 4 x4)).trans (grown_set _ g 5 x5)).trans (grown_set _ g 6 x6)).trans (grown_set _ g 7 x7)).trans (grown_set _ g 8 x8)
theorem BoxE.put9 (H : BoxE W g [a0, a1, a2, a3, a4, a5, a6, a7, a8]) (x0 x1 x2 x3 x4 x5 x6 x7 x8 : Value) : BoxE (((((((((W.setCell ⟨g, 0, none⟩ x0).setCell ⟨g, 1, none⟩ x1).setCell ⟨g, 2, none⟩ x2).setCell ⟨g, 3, none⟩ x3).setCell ⟨g, 4, none⟩ x4).setCell ⟨g, 5, none⟩ x5).setCell ⟨g, 6, none⟩ x6).setCell ⟨g, 7, none⟩ x7).setCell ⟨g, 8, none⟩ x8) g [x0, x1, x2, x3, x4, x5, x6, x7, x8] :=
 ((((((((H.set 0 x0 rfl).set 1 x1 rfl).set 2 x2 rfl).set 3 x3 rfl).set 4 x4 rfl).set 5 x5 rfl).set 6 x6 rfl).set 7 x7 rfl).set 8 x8 rfl
theorem BoxE.set1to7 (H : BoxE W g [a0, a1, a2, a3, a4, a5, a6, a7, a8]) (x1 x2 x3 x4 x5 x6 x7 : Value) : BoxE (((((((W.setCell ⟨g, 1, none⟩ x1).setCell ⟨g, 2, none⟩ x2).setCell ⟨g, 3, none⟩ x3).setCell ⟨g, 4, none⟩ x4).setCell ⟨g, 5, none⟩ x5).setCell ⟨g, 6, none⟩ x6).setCell ⟨g, 7, none⟩ x7) g [a0, x1, x2, x3, x4, x5, x6, x7, a8] :=
 ((((((H.set 1 x1 rfl).set 2 x2 rfl).set 3 x3 rfl).set 4 x4 rfl).set 5 x5 rfl).set 6 x6 rfl).set 7 x7 rfl
theorem grown_set1to7 (W : World) (g : Nat) (x1 x2 x3 x4 x5 x6 x7 : Value) : W.grownBy (((((((W.setCell ⟨g, 1, none⟩ x1).setCell ⟨g, 2, none⟩ x2).setCell ⟨g, 3, none⟩ x3).setCell ⟨g, 4, none⟩ x4).setCell ⟨g, 5, none⟩ x5).setCell ⟨g, 6, none⟩ x6).setCell ⟨g, 7, none⟩ x7) (some g) :=
 ((((((grown_set W g 1 x1).trans (grown_set _ g 2 x2)).trans (grown_set _ g 3 x3)).trans (grown_set _ g 4 x4)).trans (grown_set _ g 5 x5)).trans (grown_set _ g 6 x6)).trans (grown_set _ g 7 x7)
theorem grown_ownO {w : World} {r o : Option Nat} (h : w.grownBy W r) (hg : W.grownBy W' o) (hn : ∀ g, o = some g → w.heap.size ≤ g) : w.grownBy W' r :=
 ⟨hg.os.trans h.os, hg.tape.trans h.tape, hg.output.trans h.output, Nat.le_trans h.size hg.size, fun k hk hk2 => (hg.block k (Nat.lt_of_lt_of_le hk h.size) (fun e => by have := hn k e.symm; omega)).trans (h.block k hk hk2)⟩
theorem idx6k (m : Nat → Bool) {k : Nat} (hk : k < 6) (W : World) : (Instr.index 81 (.agg #[.bool (m 0), .bool (m 1), .bool (m 2), .bool (m 3), .bool (m 4), .bool (m 5)]) (.int .i64 (k : Int))).run Tryz.prog W = .ok (.bool (m k)) W := by
 have h := idx6 W (m 0) (m 1) (m 2) (m 3) (m 4) (m 5)
 rcases k with _ | _ | _ | _ | _ | _ | k
 · exact h.1
 · exact h.2.1
 · exact h.2.2.1
 · exact h.2.2.2.1
 · exact h.2.2.2.2.1
 · exact h.2.2.2.2.2
 · omega
def marksL (m : Nat → Bool) (k : Nat) : List Nat := (List.range k).filter m
theorem marksL_succ (m : Nat → Bool) (k : Nat) : marksL m (k + 1) = if m k = true then marksL m k ++ [k] else marksL m k := by
 unfold marksL
 rw [List.range_succ, List.filter_append]
 cases h : m k <;> simp [h]
theorem marksL_le (m : Nat → Bool) (k : Nat) : (marksL m k).length ≤ k := by
 have h := List.length_filter_le m (List.range k)
 rw [List.length_range] at h
 exact h
def u8V (n : Nat) : Value := .int .u8 (n : Int)
def LR.Pz (R : LR) : IvP := bif R.ok then R.P else (0, 0)
def LR.fz (R : LR) : List IvP := bif R.ok then R.fs else []
structure OfF (R : LR) (w : World) (no : Bool) (t : Iv) (sA sB F : Option Addr) (sa sb nf f : Nat) : Prop where
 no : no = !R.ok
 iv : IvW R.Pz t
 a : U64s w old sA sa t.l0
 b : U64s w old sB sb t.l1
 nf : nf = R.fz.length
 fm : IvsAt w old F f (fmOf R.fz)
theorem OfF.keepE {R : LR} {w w' : World} {no : Bool} {sA sB F : Option Addr} {sa sb nf f : Nat} (h : OfF R w no t sA sB F sa sb nf f) (hn : ∀ b o, F = some ⟨b, o, none⟩ → b ≠ g) (hN : NoU w g) (hg : w.grownBy w' (some g)) : OfF R w' no t sA sB F sa sb nf f :=
 ⟨h.no, h.iv, h.a.keepE hN hg, h.b.keepE hN hg, h.nf, h.fm.keepE hn hN hg⟩
def MkL (w : World) (A : Option Addr) (c n : Nat) (m : Nat → Bool) : Prop := n = (marksL m 6).length ∧ RowK 1 w A c n (fun j _ => u8V (((marksL m 6)[j]?).getD 0))
def OfP (S Y : Prop) (R : LR) (w : World) (e : Ending) (w' : World) : Prop :=
 ∃ (E : Int) (no : Bool) (t : Iv) (sA sB F WA : Option Addr) (sa sb nf f wn wc : Nat), e = .returned (.tuple #[.agg #[.bool no, .bool t.n0, .bool t.s0, .slice sA t.l0.length sa, .bool t.n1, .bool t.s1, .slice sB t.l1.length sb, .slice F nf f, .slice WA wn wc], .int .i64 E]) ∧ Below w.heap.size w w' ∧ (E ≠ 0 → nf = 0 ∧ wn = 0) ∧ (Y → E = 0) ∧ (E = 0 → S ∧ OfF R w' no t sA sB F sa sb nf f ∧ MkL w' WA wc wn R.mrk)
theorem own_mk {w : World} {B : Nat} {v : Value} {m : Nat → Bool} (h : w.ownsRow B 5 1 v (marksL m 6).length ((marksL m 6).map u8V)) : ∃ A c, v = .slice A (marksL m 6).length c ∧ MkL w A c (marksL m 6).length m ∧ ∀ b o, A = some ⟨b, o, none⟩ → B ≤ b := by
 rcases Nat.eq_zero_or_pos (marksL m 6).length with h0 | h0
 · rcases h.2 with ⟨e, _⟩ | ⟨g, E, cur, e1, hbg, _, F, C, _⟩
   · exact ⟨none, 0, by rw [e, h0], ⟨rfl, by rw [h0]; exact RowK.nil 1 w _⟩, fun b o e => by cases e⟩
   · exact ⟨some ⟨g, 0, none⟩, E, e1, ⟨rfl, ⟨by omega, by simp only [maxLen] at C; omega, fun h => by omega⟩⟩, fun b o e => by injection e with e; injection e with e _; omega⟩
 · obtain ⟨g, E, rfl, F, C⟩ := own_slice h h0
   refine ⟨_, _, rfl, ⟨rfl, F, by simp only [maxLen] at C; omega, fun _ => ⟨g, 0, rfl, (h.lt g rfl).2, fun j hj i hi => ?_⟩⟩, fun b o e => by injection e with e; injection e with e _; have := (h.lt g rfl).1; omega⟩
   obtain rfl : i = 0 := by omega
   have D := h.cells (g := g) rfl j _ (List.getElem?_eq_getElem (by rw [List.length_map]; exact hj))
   rw [Addr.add_lit, Nat.zero_add] at D
   rw [Nat.mul_one, Nat.zero_add, Nat.add_zero, D]
   simp [List.getElem?_eq_getElem hj]
theorem lof_any {w : World} {K N pp : Int} {nm : ByteArray} {xL : Nat} {G : LkG} {S1 S3 S4 Y : Prop} {R2 : Bool} {R : LR}
  (hCH : ∀ W, Below w.heap.size w W → Calls Tryz.prog 27 #[.agg #[.int .i64 G.V, .slice G.Aa G.na G.ca, .int .i64 G.no, .int .i64 G.st, .int .i64 G.la, .slice G.EA G.ne G.ce]] W fun e w' => ∃ n, e = .returned (.int .i64 n) ∧ (n = 0 → S1) ∧ (Y → n = 0) ∧ Below W.heap.size W w')
  (hBX : ∀ W, Below w.heap.size w W → Calls Tryz.prog 28 #[.agg #[.int .i64 G.V, .slice G.Aa G.na G.ca, .int .i64 G.no, .int .i64 G.st, .int .i64 G.la, .slice G.EA G.ne G.ce], .slice G.BA G.bn G.bc] W fun e w' => e = .returned (.bool R2) ∧ Below W.heap.size W w')
  (hPK : ∀ W, Below w.heap.size w W → Calls Tryz.prog 29 #[.agg #[.int .i64 G.V, .slice G.Aa G.na G.ca, .int .i64 G.no, .int .i64 G.st, .int .i64 G.la, .slice G.EA G.ne G.ce], .slice G.PA G.pn G.pc] W fun e w' => ∃ b, e = .returned (.bool b) ∧ (b = true → S3) ∧ (Y → b = true) ∧ Below W.heap.size W w')
  (hMY : ∀ W, Below w.heap.size w W → Calls Tryz.prog 30 #[.agg #[.int .i64 G.V, .slice G.Aa G.na G.ca, .int .i64 G.no, .int .i64 G.st, .int .i64 G.la, .slice G.EA G.ne G.ce], .agg #[.int .u8 K, .string nm, .int .i64 N, .slice XA xL cx, .int .i64 pp]] W fun e w' => ∃ b, e = .returned (.bool b) ∧ (b = true → S4) ∧ (Y → b = true) ∧ Below W.heap.size W w')
  (hY : Y → R2 = true)
  (hEX : S1 → R2 = true → S3 → S4 → (∀ W lk, Below w.heap.size w W → w.heap.size ≤ lk → BoxE W lk (lkL G noR) → Calls Tryz.prog 31 #[.pointer (some ⟨lk, 0, none⟩), .agg #[.int .u8 K, .string nm, .int .i64 N, .slice XA xL cx, .int .i64 pp]] W (LP lk G noR R W)) ∧ (R.ok = true → IvN 6000 R.P.1 R.P.2 ∧ 1 ≤ R.fs.length ∧ R.fs.length ≤ 64)) :
  Calls Tryz.prog 9 #[.agg #[.int .i64 G.V, .slice G.Aa G.na G.ca, .int .i64 G.no, .int .i64 G.st, .int .i64 G.la, .slice G.EA G.ne G.ce], .slice G.PA G.pn G.pc, .slice G.BA G.bn G.bc, .agg #[.int .u8 K, .string nm, .int .i64 N, .slice XA xL cx, .int .i64 pp]] w (OfP (S1 ∧ R2 = true ∧ S3 ∧ S4) Y R w) := by
 obtain ⟨W1, QN, KO, K9, Qa, Qb, Qc⟩ := al3 w [.int .i64 G.V, .slice G.Aa G.na G.ca, .int .i64 G.no, .int .i64 G.st, .int .i64 G.la, .slice G.EA G.ne G.ce] 25 [.int .u8 K, .string nm, .int .i64 N, .slice XA xL cx, .int .i64 pp] 29 [.bool false, .bool false, .bool false, .slice none 0 0, .bool false, .bool false, .slice none 0 0, .slice none 0 0, .slice none 0 0] 43
 obtain ⟨O, X, E⟩ := hid3 K9.b Qa.b Qb
 have KI := Qc
 obtain ⟨d, C, Qd, Qe, Qf, Qg⟩ := hid6 KI KO (hCH W1 KO) hBX hPK hMY
 obtain ⟨Qh, QO⟩ := hid2 hEX hY
 obtain ⟨m, q, s, x, y, z⟩ := O.out.all6
 clear K9 Qa Qb Qc
 clear KO KI hCH hBX hPK hMY hEX hY
 go_enter Tryz.func9, Tryz.ntmps9
 go_wp2_with fail
 refine Qd.out.mono ?_
 rintro e w2 ⟨n1, rfl, Qi, Qj, B⟩
 replace O := hid (O.out.below B)
 replace X := hid (X.out.below B)
 replace E := hid (E.out.below B)
 replace C := hid (from_ C.out B)
 replace d := hid (Nat.le_trans d.out B.size)
 obtain ⟨Kt, HY⟩ := hid2 Qi Qj
 clear m q s x y z B Qd QN Qi Qj
 by_cases hn1 : n1 = 0
 case neg =>
  have t0 : (n1 == 0) = false := beq_eq_false_iff_ne.2 hn1
  have KV := hid hn1
  obtain ⟨⟨r0, r1, r2, r3, r4, r5, r6, r7, r8⟩, p0, p1, p2, p3, p4, p5, p6, p7, p8⟩ := E.out.b.all9
  obtain ⟨HP, Kh⟩ := hid2 (E.out.put9 (.bool false) (.bool false) (.bool false) (.slice none 0 0) (.bool false) (.bool false) (.slice none 0 0) (.slice none 0 0) (.slice none 0 0)) (C.out.grown (grown_set9 w2 (w.heap.size + 2) (.bool false) (.bool false) (.bool false) (.slice none 0 0) (.bool false) (.bool false) (.slice none 0 0) (.slice none 0 0) (.slice none 0 0)) C.out.size (fun k e => by injection e; omega))
  clear E C
  go_wp2
  refine bodyPost_ret (res_Lined2 rfl _ (w.heap.size + 2) rfl HP.out.b) rfl ?_
  exact ⟨n1, false, zeroI, none, none, none, none, 0, 0, 0, 0, 0, 0, rfl, Kh.out, fun _ => ⟨rfl, rfl⟩, (fun h => absurd (HY.out h) KV.out), fun h => absurd h (KV.out)⟩
 subst hn1
 replace Kt := hid (Kt.out rfl)
 obtain ⟨m, q, s, x, y, z⟩ := O.out.all6
 go_wp2_with fail
 refine (Qe.out _ C.out).mono ?_
 rintro e w3 ⟨rfl, B⟩
 replace O := hid (O.out.below B)
 replace X := hid (X.out.below B)
 replace E := hid (E.out.below B)
 replace C := hid (from_ C.out B)
 replace d := hid (Nat.le_trans d.out B.size)
 clear m q s x y z B Qe
 cases R2
 case false =>
  obtain ⟨⟨r0, r1, r2, r3, r4, r5, r6, r7, r8⟩, p0, p1, p2, p3, p4, p5, p6, p7, p8⟩ := E.out.b.all9
  obtain ⟨HP, Kh⟩ := hid2 (E.out.put9 (.bool false) (.bool false) (.bool false) (.slice none 0 0) (.bool false) (.bool false) (.slice none 0 0) (.slice none 0 0) (.slice none 0 0)) (C.out.grown (grown_set9 w3 (w.heap.size + 2) (.bool false) (.bool false) (.bool false) (.slice none 0 0) (.bool false) (.bool false) (.slice none 0 0) (.slice none 0 0) (.slice none 0 0)) C.out.size (fun k e => by injection e; omega))
  clear E C
  go_wp2
  refine bodyPost_ret (res_Lined2 rfl _ (w.heap.size + 2) rfl HP.out.b) rfl ?_
  exact ⟨8, false, zeroI, none, none, none, none, 0, 0, 0, 0, 0, 0, rfl, Kh.out, fun _ => ⟨rfl, rfl⟩, (fun h => by have h9 := QO.out h; simp at h9), fun h => absurd h (by decide)⟩
 obtain ⟨m, q, s, x, y, z⟩ := O.out.all6
 go_wp2_with fail
 refine (Qf.out _ C.out).mono ?_
 rintro e w4 ⟨b3, rfl, Qk, Ql, B⟩
 replace O := hid (O.out.below B)
 replace X := hid (X.out.below B)
 replace E := hid (E.out.below B)
 replace C := hid (from_ C.out B)
 replace d := hid (Nat.le_trans d.out B.size)
 obtain ⟨Kv, QP⟩ := hid2 Qk Ql
 clear m q s x y z B Qf Qk Ql
 cases b3
 case false =>
  obtain ⟨⟨r0, r1, r2, r3, r4, r5, r6, r7, r8⟩, p0, p1, p2, p3, p4, p5, p6, p7, p8⟩ := E.out.b.all9
  obtain ⟨HP, Kh⟩ := hid2 (E.out.put9 (.bool false) (.bool false) (.bool false) (.slice none 0 0) (.bool false) (.bool false) (.slice none 0 0) (.slice none 0 0) (.slice none 0 0)) (C.out.grown (grown_set9 w4 (w.heap.size + 2) (.bool false) (.bool false) (.bool false) (.slice none 0 0) (.bool false) (.bool false) (.slice none 0 0) (.slice none 0 0) (.slice none 0 0)) C.out.size (fun k e => by injection e; omega))
  clear E C
  go_wp2
  refine bodyPost_ret (res_Lined2 rfl _ (w.heap.size + 2) rfl HP.out.b) rfl ?_
  exact ⟨2, false, zeroI, none, none, none, none, 0, 0, 0, 0, 0, 0, rfl, Kh.out, fun _ => ⟨rfl, rfl⟩, (fun h => by have h9 := QP.out h; simp at h9), fun h => absurd h (by decide)⟩
 replace Kv := hid (Kv.out rfl)
 obtain ⟨m, q, s, x, y, z⟩ := O.out.all6
 obtain ⟨x0, x1, x2, x3, x4⟩ := X.out.all5
 go_wp2_with fail
 refine (Qg.out _ C.out).mono ?_
 rintro e w5 ⟨b4, rfl, Qm, Qn, B⟩
 replace O := hid (O.out.below B)
 replace X := hid (X.out.below B)
 replace E := hid (E.out.below B)
 replace C := hid (from_ C.out B)
 replace d := hid (Nat.le_trans d.out B.size)
 obtain ⟨Kw, QQ⟩ := hid2 Qm Qn
 clear m q s x y z x0 x1 x2 x3 x4 B Qg Qm Qn
 cases b4
 case false =>
  obtain ⟨⟨r0, r1, r2, r3, r4, r5, r6, r7, r8⟩, p0, p1, p2, p3, p4, p5, p6, p7, p8⟩ := E.out.b.all9
  obtain ⟨HP, Kh⟩ := hid2 (E.out.put9 (.bool false) (.bool false) (.bool false) (.slice none 0 0) (.bool false) (.bool false) (.slice none 0 0) (.slice none 0 0) (.slice none 0 0)) (C.out.grown (grown_set9 w5 (w.heap.size + 2) (.bool false) (.bool false) (.bool false) (.slice none 0 0) (.bool false) (.bool false) (.slice none 0 0) (.slice none 0 0) (.slice none 0 0)) C.out.size (fun k e => by injection e; omega))
  clear E C
  go_wp2
  refine bodyPost_ret (res_Lined2 rfl _ (w.heap.size + 2) rfl HP.out.b) rfl ?_
  exact ⟨2, false, zeroI, none, none, none, none, 0, 0, 0, 0, 0, 0, rfl, Kh.out, fun _ => ⟨rfl, rfl⟩, (fun h => by have h9 := QQ.out h; simp at h9), fun h => absurd h (by decide)⟩
 replace Kw := hid (Kw.out rfl)
 obtain ⟨Qo, Qp⟩ := Qh.out Kt.out (by first | rfl | trivial) Kv.out Kw.out
 have Kn := hid Qp
 have Q := (Below.refl w5.heap.size w5).alloc (Nat.le_refl _) (.cells #[.int .i64 G.V, .slice G.Aa G.na G.ca, .int .i64 G.no, .int .i64 G.st, .int .i64 G.la, .slice G.EA G.ne G.ce, .slice G.PA G.pn G.pc, .slice G.BA G.bn G.bc, .bool false, .bool false, .bool false, .bool false, .bool false, .bool false] 83)
 have KW : Hid (BoxE (w5.alloc (.cells #[.int .i64 G.V, .slice G.Aa G.na G.ca, .int .i64 G.no, .int .i64 G.st, .int .i64 G.la, .slice G.EA G.ne G.ce, .slice G.PA G.pn G.pc, .slice G.BA G.bn G.bc, .bool false, .bool false, .bool false, .bool false, .bool false, .bool false] 83)) w5.heap.size (lkL G noR)) := hid (BoxE.new w5 [.int .i64 G.V, .slice G.Aa G.na G.ca, .int .i64 G.no, .int .i64 G.st, .int .i64 G.la, .slice G.EA G.ne G.ce, .slice G.PA G.pn G.pc, .slice G.BA G.bn G.bc, .bool false, .bool false, .bool false, .bool false, .bool false, .bool false] _)
 have Kx := hid (from_ C.out Q)
 obtain ⟨HE, Qq⟩ := hid2 (Qo _ w5.heap.size Kx.out C.out.size KW.out) (E.out.below Q)
 have KX := X.out.below Q
 have Kf := hid d.out
 obtain ⟨m, q, s, x, y, z⟩ := O.out.all6
 obtain ⟨x0, x1, x2, x3, x4⟩ := KX.all5
 clear Qh O X E KX Q Qo Qp KW
 go_wp2_with fail
 refine HE.out.mono ?_
 rintro e H ⟨t, rA, ra, rB, rb, F, nf, f, rfl, ht, hK, hG⟩
 have KY : orF noR R.mrk = R.mrk := by funext i; simp [orF, noR]
 rw [KY] at hK
 have KZ := (Below.refl H.heap.size H).alloc (Nat.le_refl _) (.cells #[.bool t.n0, .bool t.s0, .slice rA t.l0.length ra, .bool t.n1, .bool t.s1, .slice rB t.l1.length rb, .slice F nf f] 85)
 have HT := hid (BoxL.new H [.bool t.n0, .bool t.s0, .slice rA t.l0.length ra, .bool t.n1, .bool t.s1, .slice rB t.l1.length rb, .slice F nf f] 85)
 have hO := BoxE.new (H.alloc (.cells #[.bool t.n0, .bool t.s0, .slice rA t.l0.length ra, .bool t.n1, .bool t.s1, .slice rB t.l1.length rb, .slice F nf f] 85)) [.bool (!R.ok), .bool false, .bool false, .slice none 0 0, .bool false, .bool false, .slice none 0 0, .slice none 0 0, .slice none 0 0] 43
 rw [show (H.alloc (.cells #[.bool t.n0, .bool t.s0, .slice rA t.l0.length ra, .bool t.n1, .bool t.s1, .slice rB t.l1.length rb, .slice F nf f] 85)).heap.size = H.heap.size + 1 by simp] at hO
 have KJ := (Below.refl (H.alloc (.cells #[.bool t.n0, .bool t.s0, .slice rA t.l0.length ra, .bool t.n1, .bool t.s1, .slice rB t.l1.length rb, .slice F nf f] 85)).heap.size (H.alloc (.cells #[.bool t.n0, .bool t.s0, .slice rA t.l0.length ra, .bool t.n1, .bool t.s1, .slice rB t.l1.length rb, .slice F nf f] 85))).alloc (Nat.le_refl _) (.cells #[.bool (!R.ok), .bool false, .bool false, .slice none 0 0, .bool false, .bool false, .slice none 0 0, .slice none 0 0, .slice none 0 0] 43)
 have KK : ((H.alloc (.cells #[.bool t.n0, .bool t.s0, .slice rA t.l0.length ra, .bool t.n1, .bool t.s1, .slice rB t.l1.length rb, .slice F nf f] 85)).alloc (.cells #[.bool (!R.ok), .bool false, .bool false, .slice none 0 0, .bool false, .bool false, .slice none 0 0, .slice none 0 0, .slice none 0 0] 43)).heap.size = H.heap.size + 2 := by simp
 have Kg := from_ KZ KJ
 have K0 : w5.heap.size + 1 ≤ H.heap.size := by have := hG.size; simpa using this
 have K1 := hid (Kx.out.grown hG Kx.out.size (fun k e => by injection e with e; subst e; exact C.out.size))
 obtain ⟨Ko, Kp, Kq, Ki, Kj⟩ := hid5 (from_ K1.out Kg) ((Qq.out.kept hG (by have := Kf.out; simp; omega)).below Kg) (hK.below Kg) (HT.out.below KJ) hO
 have HV := hid (fun h => by
  obtain ⟨a1, a2, a3, a4, a5, a6⟩ := ht h
  exact And.intro a1 (And.intro (a2.below Kg) (And.intro (a3.below Kg) (And.intro a4 (And.intro (a5.below Kg) (And.intro a6 (fun b o e => by
   obtain ⟨b', o', e', h2, _⟩ := a5.row (by rw [fmOf_len]; have := (Kn.out h).2; omega)
   rw [e] at e'
   injection e' with e'
   injection e' with e1 _
   subst e1
   exact h2 : ∀ b o, F = some ⟨b, o, none⟩ → b < H.heap.size)))))))
 have Kc := hid K0
 obtain ⟨T, QR⟩ : ∃ g, H.heap.size = g := ⟨_, rfl⟩
 simp only [QR] at Kc HV Ki Kj KK
 have Ky := hid KK
 clear m q s x y z x0 x1 x2 x3 x4 HE Qq hG hK ht K0 KZ KJ Kg HT Kx hO KY KK
 go_upto_if 57 with fail
 obtain ⟨W9, KE⟩ : ∃ W, ((H.alloc (.cells #[.bool t.n0, .bool t.s0, .slice rA t.l0.length ra, .bool t.n1, .bool t.s1, .slice rB t.l1.length rb, .slice F nf f] 85)).alloc (.cells #[.bool (!R.ok), .bool false, .bool false, .slice none 0 0, .bool false, .bool false, .slice none 0 0, .slice none 0 0, .slice none 0 0] 43)) = W := ⟨_, rfl⟩
 rw [show ((H.alloc (.cells #[.bool t.n0, .bool t.s0, .slice rA t.l0.length ra, .bool t.n1, .bool t.s1, .slice rB t.l1.length rb, .slice F nf f] 85)).alloc (.cells (List.toArray [.bool (!R.ok), .bool false, .bool false, .slice none 0 0, .bool false, .bool false, .slice none 0 0, .slice none 0 0, .slice none 0 0]) 43)) = W9 from KE] at Kj
 rw [KE]
 rw [KE] at Ko Kp Kq Ki HV Ky
 clear KE
 go_cut [13] (fun s13 wx => ∃ (no : Bool) (t : Iv) (I L F' : Option Addr) (J M nf U : Nat), Hid (BoxE wx (T + 1) [.bool no, .bool t.n0, .bool t.s0, .slice I t.l0.length J, .bool t.n1, .bool t.s1, .slice L t.l1.length M, .slice F' nf U, .slice none 0 0]) ∧ Hid (BoxE wx (w.heap.size + 2) [.bool false, .bool false, .bool false, .slice none 0 0, .bool false, .bool false, .slice none 0 0, .slice none 0 0, .slice none 0 0]) ∧ Hid (BoxE wx w5.heap.size (lkL G R.mrk)) ∧ Hid (OfF R wx no t I L F' J M nf U) ∧ Hid (∀ b o, F' = some ⟨b, o, none⟩ → b ≠ T + 1 ∧ b ≠ w.heap.size + 2) ∧ Hid (T + 2 ≤ wx.heap.size) ∧ Below w.heap.size w wx)
 case first =>
  cases hok : R.ok with
  | false =>
    have Kz := hid (show BoxE W9 (T + 1) [.bool true, .bool zeroI.n0, .bool zeroI.s0, .slice none zeroI.l0.length 0, .bool zeroI.n1, .bool zeroI.s1, .slice none zeroI.l1.length 0, .slice none 0 0, .slice none 0 0] by have h := Kj.out; rw [hok] at h; exact h)
    have Km : Hid (OfF R W9 true zeroI none none none 0 0 0 0) := hid ⟨by rw [hok]; rfl, by unfold LR.Pz; rw [hok]; exact zero_w, U64s.nil _ _, U64s.nil _ _, by unfold LR.fz; rw [hok]; rfl, by unfold LR.fz; rw [hok]; exact IvsAt.nil _ _⟩
    clear Kj Ki HV Kn
    go_wp2_with fail
    go_meet
    exact ⟨true, zeroI, none, none, none, 0, 0, 0, 0, Kz, Kp, Kq, Km, hid fun b o e => (by cases e), hid (by have := Ky.out; omega), Ko.out⟩
  | true =>
    obtain ⟨a1, a2, a3, a4, a5, a6, a7⟩ := HV.out hok
    obtain ⟨gr, Qr, Qs⟩ := Kn.out hok
    subst a4
    obtain ⟨HM, Kz, Qt, QS, HL, QT⟩ := hid6 (imeetG_w (r := t) a1 gr a1 gr a2 a3 a2 a3 (by have := gr.le; rw [show max R.P.1 R.P.1 = R.P.1 by omega, show min R.P.2 R.P.2 = R.P.2 by omega]; exact a1) (by have := gr.le; omega)) (show BoxE W9 (T + 1) [.bool false, .bool false, .bool false, .slice none 0 0, .bool false, .bool false, .slice none 0 0, .slice none 0 0, .slice none 0 0] by have h := Kj.out; rw [hok] at h; exact h) a5 (show R.Pz = R.P ∧ R.fz = R.fs ∧ IvW R.P t by refine ⟨?_, ?_, a1⟩ <;> (first | unfold LR.Pz | unfold LR.fz) <;> rw [hok] <;> rfl) (And.intro Qr Qs) hok
    obtain ⟨⟨t0, t1, t2, t3, t4, t5, t6⟩, _⟩ := Ki.out.all7
    clear gr Qr Qs a1 a2 a3 a5 a6 a7 Kj HV Kn
    go_wp2_with fail
    refine HM.out.mono ?_
    rintro e KF ⟨I, J, L, M, rfl, s1, s2, B⟩
    have HI := hid (BoxL.new KF [.bool t.n0, .bool t.s0, .slice I t.l0.length J, .bool t.n1, .bool t.s1, .slice L t.l1.length M] 39)
    have Q := (Below.refl KF.heap.size KF).alloc (Nat.le_refl _) (.cells #[.bool t.n0, .bool t.s0, .slice I t.l0.length J, .bool t.n1, .bool t.s1, .slice L t.l1.length M] 39)
    obtain ⟨a, Qv⟩ : ∃ W, KF.alloc (.cells #[.bool t.n0, .bool t.s0, .slice I t.l0.length J, .bool t.n1, .bool t.s1, .slice L t.l1.length M] 39) = W := ⟨_, rfl⟩
    rw [Qv] at HI Q
    have Kd := from_ B Q
    obtain ⟨Qw, QU, QV, QW, QX, S1⟩ := hid6 (from_ Ko.out Kd) (Kp.out.below Kd) (Kq.out.below Kd) (Ki.out.below Kd) (Kz.out.below Kd) (s1.below Q)
    obtain ⟨S2, KP⟩ := hid2 (s2.below Q) (show T + 2 ≤ a.heap.size by have := Kd.size; have := Ky.out; omega)
    have K2 : Below a.heap.size a a.drew := bdr_
    have KL := hid (lclone_any (w := a.drew) ((Qt.out.below Kd).below K2) (by rw [fmOf_len]; exact HL.out.1) (by rw [fmOf_len]; exact HL.out.2))
    rw [fmOf_len] at KL
    clear t0 t1 t2 t3 t4 t5 t6 B Q Kd s1 s2 HM Qt Kp Kq Ki Kz Ko K2 HL
    go_upto_region 13 with fail
    clear Qv
    obtain ⟨x0, x1, x2, x3, x4, x5⟩ := HI.out.all6
    have t6 := QW.out.c 6 _ rfl
    first | go_region_with ((go_at_call 33; with_reducible refine KL.out.mono ?_; rintro e w12 ⟨F', U, rfl, Qx, Qy, B⟩; have Z : Below a.heap.size a w12 := from_ ((Below.refl a.heap.size a).drew) B; have KA := hid (QX.out.below Z); obtain ⟨y0, y1, y2, y3, y4, y5⟩ := (HI.out.below Z).all6; obtain ⟨⟨o0, o1, o2, o3, o4, o5, o6, o7, o8⟩, p0, p1, p2, p3, p4, p5, p6, p7, p8⟩ := KA.out.b.all9)) | fail
    all_goals
     have S := grown_set1to7 w12 (T + 1) (.bool t.n0) (.bool t.s0) (.slice I t.l0.length J) (.bool t.n1) (.bool t.s1) (.slice L t.l1.length M) (.slice F' R.fs.length U)
     have Km := hid (KA.out.set1to7 (.bool t.n0) (.bool t.s0) (.slice I t.l0.length J) (.bool t.n1) (.bool t.s1) (.slice L t.l1.length M) (.slice F' R.fs.length U))
     have KB := KA.out.noU (fun v hv n e => by subst e; simp at hv)
     obtain ⟨QY, QZ⟩ := hid2 ((QU.out.below Z).kept S (by have := Kc.out; have := Kf.out; simp; omega)) ((QV.out.below Z).kept S (by have := Kc.out; simp; omega))
     have K3 := (S1.out.below Z).keepE KB S
     have K4 := (S2.out.below Z).keepE KB S
     have KM : NewA a.heap.size F' := Qy
     have FF := Qx.keepE (fun b o e => by have h1 := KM b o e; have := KP.out; omega) KB S
     obtain ⟨NF, BF, ZF⟩ := hid3 (show ∀ b o, F' = some ⟨b, o, none⟩ → b ≠ T + 1 ∧ b ≠ w.heap.size + 2 from fun b o e => by have h1 := KM b o e; have := KP.out; have := Kc.out; have := Kf.out; omega) ((from_ Qw.out Z).grown S (by have := Qw.out.size; have := Z.size; omega) (fun k e => by have := Kc.out; have := Kf.out; injection e; omega)) (Nat.le_trans KP.out (Nat.le_trans Z.size S.size))
     obtain ⟨q1, q2, q3⟩ := QS.out
     have OF := hid (OfF.mk (R := R) (no := false) (by rw [QT.out]; rfl) (by rw [q1]; exact q3) K3 K4 (nf := R.fs.length) (by rw [q2]) (by rw [q2]; exact FF))
     clear x0 x1 x2 x3 x4 x5 t6 y0 y1 y2 y3 y4 y5 o0 o1 o2 o3 o4 o5 o6 o7 o8 p0 p1 p2 p3 p4 p5 p6 p7 p8 S Qx Qy KM B Z KA KL KB K3 K4 FF q1 q2 q3
     go_wp2_with fail
     go_meet
     exact ⟨false, t, I, L, F', J, M, R.fs.length, U, Km, QY, QZ, OF, NF, ZF, BF.out⟩
 case rest =>
  obtain ⟨no, D, I, L, F', J, M, Kr, U, KQ, Qz, Kk, Km, KR, KS, QA⟩ := hcut
  have KC := hid QA
  have k8 := Kk.out.b.c 8 _ rfl
  have k9 := Kk.out.b.c 9 _ rfl
  have QC := Kk.out.b.c 10 _ rfl
  have QD := Kk.out.b.c 11 _ rfl
  have QE := Kk.out.b.c 12 _ rfl
  have QF := Kk.out.b.c 13 _ rfl
  clear QA Kj Ki HV Kn Kp Kq Ko K1 C Ky
  obtain ⟨Ks, Q0⟩ : ∃ W, W = wc := ⟨_, rfl⟩
  subst Q0
  go_wp2
  clear k8 k9 QC QD QE QF
  go_loopw [76] (fun i wr => ∃ (k : Nat) (v : Value), k ≤ 6 ∧ i = .int .i64 (k : Int) ∧ Hid (BoxE wr (T + 1) [.bool no, .bool D.n0, .bool D.s0, .slice I D.l0.length J, .bool D.n1, .bool D.s1, .slice L D.l1.length M, .slice F' Kr U, v]) ∧ Hid (wr.ownsRow Ks.heap.size 5 1 v (marksL R.mrk k).length ((marksL R.mrk k).map u8V)) ∧ Hid (Ks.grownBy wr (some (T + 1)))) (fun i _ => 6 - (intOf i).toNat)
  case atStart => exact ⟨0, .slice none 0 0, by omega, rfl, KQ, hid (World.ownsRow_nil _ _ _ _), hid ⟨rfl, rfl, rfl, Nat.le_refl _, fun _ _ _ => rfl⟩⟩
  case round =>
   obtain ⟨k, v, hk, rfl, Kl, Ke, Ka⟩ := hrel
   by_cases hlt : k < 6
   · have K5 := idx6k R.mrk hlt
     cases Kb : R.mrk k with
     | false =>
       rw [Kb] at K5
       have QG : Hid (wr.ownsRow Ks.heap.size 5 1 v (marksL R.mrk (k + 1)).length ((marksL R.mrk (k + 1)).map u8V)) := hid (by rw [marksL_succ, if_neg (by rw [Kb]; simp)]; exact Ke.out)
       clear Kb Ke
       go_wp2
       go_roundw
       case rel => exact ⟨k + 1, v, by omega, by go_num, Kl, QG, Ka⟩
       case measure => simp [intOf]; omega
     | true =>
       rw [Kb] at K5
       have QH := hid Kb
       obtain ⟨iu, hu, Q1, Q2, Q4⟩ := info_parts infoU8
       have o8 := Kl.out.b.c 8 _ rfl
       have QI := Kl.out.b.lt
       have Q5 := marksL_le R.mrk k
       have KI := Ka.out.size
       have Q6 : (0 : Int) ≤ k ∧ (k : Int) ≤ 255 := by omega
       generalize hn : (marksL R.mrk k).length = n at *
       have Hn := hid hn
       clear Kb hn
       go_wp2_with (at_builtin; go_loud (refine wpList_appF _ rfl _ _ 41 rfl Ks.heap.size 5 iu (.int .u8 0) 1 1 Tryz.underlying41 hu Q1 Q2 Q4 rfl (by omega) (by omega) v n ((marksL R.mrk k).map u8V) rfl (Ke.out.alloc _) wr.heap.size [.int .u8 (k : Int)] rfl rfl (fun j u h => by have h1 := cell_one_new wr (.int .u8 (k : Int)) 5 j u h; rw [Addr.add_lit, Nat.zero_add] at h1; exact h1) (by simp [Value.oneCell']) (by omega) (by simp; omega) ?_); intro v' w14 hown hgrow hfr; obtain ⟨gW, KG, rfl, Q7, Q8⟩ := own_slice hown (by omega); have KD := hid ((Kl.out.alloc (.cells #[.int .u8 (k : Int)] 5)).kept hgrow (fun e => by have := (Ke.out.lt _ e).1; have := KS.out; omega)); have y8 := KD.out.b.c 8 _ rfl; have z8 := KD.out.b.f 8 _ rfl)
       have Q := (Below.refl wr.heap.size wr).alloc (Nat.le_refl _) (.cells #[.int .u8 (k : Int)] 5)
       have K6 := grown_ownO (grown_bel Ka.out Q) hgrow (fun g e => (Ke.out.lt _ e).1)
       obtain ⟨KT, KU⟩ : ∃ W, w14.setCell ⟨T + 1, 8, none⟩ (.slice (some ⟨gW, 0, none⟩) (n + 1) KG) = W := ⟨_, rfl⟩
       have KN : w14.grownBy KT (some (T + 1)) := by rw [← KU]; exact grown_set _ _ _ _
       have QJ : Hid (BoxE KT (T + 1) [.bool no, .bool D.n0, .bool D.s0, .slice I D.l0.length J, .bool D.n1, .bool D.s1, .slice L D.l1.length M, .slice F' Kr U, (.slice (some ⟨gW, 0, none⟩) (n + 1) KG)]) := hid (by rw [← KU]; exact KD.out.set 8 _ rfl)
       have QK := hid (K6.trans KN)
       have QL : Hid (KT.ownsRow Ks.heap.size 5 1 (.slice (some ⟨gW, 0, none⟩) (n + 1) KG) (marksL R.mrk (k + 1)).length ((marksL R.mrk (k + 1)).map u8V)) := hid (by
        rw [marksL_succ, if_pos QH.out, List.length_append, Hn.out, List.map_append]
        exact hown.kept KN (.inr (fun e => by have := (hown.lt _ e).1; have := KS.out; omega)))
       clear o8 y8 z8 hown hgrow hfr Q K6 KN KD Kl Ke Ka QI
       subst KU
       go_wp2
       go_roundw
       case rel => exact ⟨k + 1, (.slice (some ⟨gW, 0, none⟩) (n + 1) KG), by omega, by go_num, QJ, QL, QK⟩
       case measure => simp [intOf]; omega
   · obtain rfl : k = 6 := by omega
     obtain ⟨WA, KH, rfl, Kb, QB⟩ := own_mk Ke.out
     obtain ⟨⟨o0, o1, o2, o3, o4, o5, o6, o7, o8⟩, _⟩ := Kl.out.b.all9
     have hR := Qz.out.kept Ka.out (by have := Kc.out; have := Kf.out; simp; omega)
     obtain ⟨⟨r0, r1, r2, r3, r4, r5, r6, r7, r8⟩, p0, p1, p2, p3, p4, p5, p6, p7, p8⟩ := hR.b.all9
     have QM := hid (hR.put9 (.bool no) (.bool D.n0) (.bool D.s0) (.slice I D.l0.length J) (.bool D.n1) (.bool D.s1) (.slice L D.l1.length M) (.slice F' Kr U) (.slice WA (marksL R.mrk 6).length KH))
     have S := grown_set9 wr (w.heap.size + 2) (.bool no) (.bool D.n0) (.bool D.s0) (.slice I D.l0.length J) (.bool D.n1) (.bool D.s1) (.slice L D.l1.length M) (.slice F' Kr U) (.slice WA (marksL R.mrk 6).length KH)
     have K7 := KQ.out.noU (fun v hv n e => by subst e; simp at hv)
     have K8 := hR.noU (fun v hv n e => by subst e; simp at hv)
     obtain ⟨OF, MF, BF⟩ := hid3 ((Km.out.keepE (fun b o e => (KR.out b o e).1) K7 Ka.out).keepE (fun b o e => (KR.out b o e).2) K8 S) (show MkL _ WA KH (marksL R.mrk 6).length R.mrk from ⟨rfl, Kb.2.keptR S (fun _ b o e => by have := QB b o e; have := KS.out; have := Kc.out; have := Kf.out; omega)⟩) ((KC.out.grown Ka.out KC.out.size (fun k e => by have := Kc.out; have := Kf.out; injection e; omega)).grown S (by have := KC.out.size; have := Ka.out.size; omega) (fun k e => by injection e; omega))
     clear S K7 K8 hR Kb QB Kl Ke Ka KQ Qz Kk Km KC KR
     go_wp2
     refine bodyPost_ret (res_Lined2 rfl _ (w.heap.size + 2) rfl QM.out.b) rfl ?_
     exact ⟨0, no, D, I, L, F', WA, J, M, Kr, U, _, KH, rfl, BF.out, fun h => absurd rfl h, fun _ => rfl, fun _ => ⟨⟨Kt.out, (by first | rfl | trivial), Kv.out, Kw.out⟩, OF.out, MF.out⟩⟩
def sumTo (f : Nat → Nat) : Nat → Nat
 | 0 => 0
 | k + 1 => sumTo f k + f k
def nmL : Nat → List Ex → Prop
 | 0, _ => True
 | d + 1, l => ∀ x ∈ l, x.nm.size ≤ 140737488355328 ∧ nmL d x.l
def nodesL : Nat → List Ex → Nat
 | 0, _ => 0
 | d + 1, l => sumTo (fun j => 1 + match l[j]? with | some x => nodesL d x.l | none => 0) l.length
theorem fsize1 {w : World} {l : List Ex} {AA : Nat → Option Addr} {CC : Nat → Nat} {ch : Nat → Nat} {most : Int} (hm : -281474976710656 ≤ most ∧ most ≤ 5000) (ha : RowK 5 w A c l.length (exC l AA CC)) (hn : ∀ x ∈ l, x.nm.size ≤ 140737488355328)
  (hch : ∀ j (hj : j < l.length) (mst : Int), -281474976710656 ≤ mst → mst ≤ 5000 → Calls Tryz.prog 64 #[.slice (AA j) l[j].l.length (CC j), .int .i64 mst] w fun e w' => (∃ r : Int, e = .returned (.int .i64 r) ∧ 0 ≤ r ∧ (mst < 0 → r = 0) ∧ (0 ≤ mst → r ≤ mst + 140737488355329) ∧ (r ≤ mst → (ch j : Int) ≤ r)) ∧ w = w') :
  Calls Tryz.prog 64 #[.slice A l.length c, .int .i64 most] w fun e w' => (∃ r : Int, e = .returned (.int .i64 r) ∧ 0 ≤ r ∧ (most < 0 → r = 0) ∧ (0 ≤ most → r ≤ most + 140737488355329) ∧ (r ≤ most → (sumTo (fun j => 1 + ch j) l.length : Int) ≤ r)) ∧ w = w' := by
 have X := ha.len
 obtain ⟨d, g⟩ := hm
 obtain ⟨Q, R, S⟩ := hid3 hch ha hn
 clear hch ha hn
 go_enter Tryz.func64, Tryz.ntmps64
 go_wp2
 go_loopw [5, 6] (fun s i wr => ∃ (k : Nat) (n : Int), k ≤ l.length ∧ i = .int .i64 (k : Int) ∧ s = .int .i64 n ∧ wr = w ∧ 0 ≤ n ∧ (most < 0 → n = 0) ∧ (0 ≤ most → n ≤ most + 140737488355329) ∧ Hid (n ≤ most → (sumTo (fun j => 1 + ch j) k : Int) ≤ n)) (fun s i _ => l.length - (intOf i).toNat)
 case atStart => exact ⟨0, 0, Nat.zero_le _, rfl, rfl, rfl, by omega, fun _ => rfl, fun h => by omega, hid fun _ => by simp [sumTo]⟩
 case round =>
  obtain ⟨k, n, m, rfl, rfl, rfl, G, E, B, C⟩ := hrel
  by_cases hlt : k < l.length
  · by_cases hle : n ≤ most
    · have N : 0 ≤ most := by omega
      replace B := B N
      clear E
      obtain ⟨b, o, rfl, q, T, H, U, I, V⟩ := R.out.at5 hlt
      rw [exC_1 hlt] at H
      rw [exC_3 hlt] at I
      have O := S.out _ (List.getElem_mem hlt)
      have F := hid (Q.out k hlt)
      generalize l[k].nm = nm at *
      generalize l[k].l.length = L at *
      obtain ⟨z, W⟩ : ∃ z : Nat, nm.size = z := ⟨_, rfl⟩
      have Y : z ≤ 140737488355328 := by omega
      have Z := hid W
      clear T U V O
      go_wp2_with fail
      refine (F.out (most - (n + 1 + (z : Int))) (by omega) (by omega)).mono ?_
      rintro e t ⟨⟨r, rfl, u, J, K, M⟩, rfl⟩
      have P : n + 1 + (z : Int) + r ≤ most + 140737488355329 := by
       by_cases h : 0 ≤ most - (n + 1 + (z : Int))
       · have := K h
         omega
       · have := J (by omega)
         omega
      have D : Hid (n + 1 + (z : Int) + r ≤ most → (sumTo (fun j => 1 + ch j) (k + 1) : Int) ≤ n + 1 + (z : Int) + r) := hid fun h => by
       have a := C.out hle
       have b := M (by omega)
       have e : sumTo (fun j => 1 + ch j) (k + 1) = sumTo (fun j => 1 + ch j) k + (1 + ch k) := rfl
       rw [e]
       push_cast
       omega
      clear J K M C F H I
      go_wp2
      go_roundw
      case rel => exact ⟨k + 1, n + 1 + (z : Int) + r, by omega, by go_num, by first | rfl | go_num, by first | rfl | trivial, by omega, fun h => by omega, fun _ => P, D⟩
      case measure => simp [intOf]; omega
    · go_wp2
      go_ret
      exact ⟨⟨n, rfl, G, E, B, fun h => absurd h (by omega)⟩, rfl⟩
  · obtain rfl : k = l.length := by omega
    have D := hid C.out
    clear C
    go_wp2
    go_ret
    exact ⟨⟨n, rfl, G, E, B, D.out⟩, rfl⟩
theorem fsize_any : ∀ {d : Nat} {l : List Ex} {w : World} {A : Option Addr} {c : Nat} {most : Int}, ExsAt w d A c l → nmL d l → -281474976710656 ≤ most ∧ most ≤ 5000 →
  Calls Tryz.prog 64 #[.slice A l.length c, .int .i64 most] w fun e w' => (∃ r : Int, e = .returned (.int .i64 r) ∧ 0 ≤ r ∧ (most < 0 → r = 0) ∧ (0 ≤ most → r ≤ most + 140737488355329) ∧ (r ≤ most → (nodesL d l : Int) ≤ r)) ∧ w = w'
 | 0, l, w, A, c, most, h, hn, hm => by
   obtain ⟨AA, CC, h1, _⟩ := h.up
   obtain ⟨rfl, _⟩ := h
   exact fsize1 (l := []) (ch := fun _ => 0) hm h1 (fun x hx => absurd hx (by simp)) (fun j hj => absurd hj (by simp))
 | d + 1, l, w, A, c, most, ⟨AA, CC, h, g⟩, hn, hm => by
   refine fsize1 (ch := fun j => match l[j]? with | some x => nodesL d x.l | none => 0) hm h (fun x hx => (hn x hx).1) (fun j hj mst m1 m2 => ?_)
   have e : (match l[j]? with | some x => nodesL d x.l | none => 0) = nodesL d l[j].l := by rw [List.getElem?_eq_getElem hj]
   rw [e]
   exact fsize_any (g j hj) (hn _ (List.getElem_mem hj)).2 ⟨m1, m2⟩
def SaysNo (S : Prop) (w : World) (e : Ending) (w' : World) : Prop := ∃ b, e = .returned (.bool b) ∧ (b = false → S) ∧ Below w.heap.size w w'
def nodesG (d : Nat) (es : List Ed) : Nat := sumTo (fun j => 1 + match es[j]? with | some x => nodesL d x.l | none => 0) es.length
theorem fgreat_any {w : World} {start last : Int} {es : List Ed} {AA : Nat → Option Addr} {CC : Nat → Nat} (he : EdsAt w d A c es AA CC) (hna : na ≤ 9223372036854775807) (hn : ∀ e ∈ es, nmL d e.l) :
  Calls Tryz.prog 25 #[.agg #[.int .i64 V, .slice Aa na ca, .int .i64 nodes, .int .i64 start, .int .i64 last, .slice A es.length c]] w (SaysNo (nodesG d es ≤ 5000) w) := by
 obtain ⟨W1, G⟩ : ∃ W, w.alloc (.cells #[.int .i64 V, .slice Aa na ca, .int .i64 nodes, .int .i64 start, .int .i64 last, .slice A es.length c] 25) = W := ⟨_, rfl⟩
 have E : Below w.heap.size w W1 := by rw [← G]; exact (Below.refl _ _).alloc (Nat.le_refl _) _
 have F : Box6 W1 w.heap.size (.int .i64 V) (.slice Aa na ca) (.int .i64 nodes) (.int .i64 start) (.int .i64 last) (.slice A es.length c) := by rw [← G]; exact Box6.new _ _ _ _ _ _ _ _
 have Y := he.1.len
 obtain ⟨C, K, P⟩ := hid3 E (he.below E) hn
 have Z := F.c1
 have g := F.c5
 clear E he hn F
 go_enter Tryz.func25, Tryz.ntmps25
 go_wp2
 clear G
 go_loopw [3, 4] (fun s i wr => ∃ (k : Nat) (n : Int), k ≤ es.length ∧ i = .int .i64 (k : Int) ∧ s = .int .i64 n ∧ wr = W1 ∧ 0 ≤ n ∧ n ≤ 140737488360400 ∧ Hid (n ≤ 5000 → (sumTo (fun j => 1 + match es[j]? with | some x => nodesL d x.l | none => 0) k : Int) ≤ n)) (fun s i _ => es.length - (intOf i).toNat)
 case atStart => exact ⟨0, 0, Nat.zero_le _, rfl, rfl, rfl, by omega, by omega, hid fun _ => by simp [sumTo]⟩
 case round =>
  obtain ⟨k, n, u, rfl, rfl, rfl, v, y, D⟩ := hrel
  by_cases hlt : k < es.length
  · by_cases hle : n ≤ 5000
    · obtain ⟨b, o, rfl, z, Q, c1, R, S, T, c5, U⟩ := K.out.1.at7 hlt
      rw [edC_5 hlt] at c5
      have I := hid (fsize_any (most := 5000 - n) (K.out.2 k hlt) (P.out _ (List.getElem_mem hlt)) (by omega))
      have J : (match es[k]? with | some x => nodesL d x.l | none => 0) = nodesL d es[k].l := by rw [List.getElem?_eq_getElem hlt]
      have O := hid J
      generalize nodesL d es[k].l = M at *
      generalize es[k].l.length = L at *
      clear Q c1 R S T U J
      go_wp2_with fail
      refine I.out.mono ?_
      rintro e w2 ⟨⟨r, rfl, h0, X, N, H⟩, rfl⟩
      have m := N (by omega)
      have B : Hid (n + 1 + r ≤ 5000 → (sumTo (fun j => 1 + match es[j]? with | some x => nodesL d x.l | none => 0) (k + 1) : Int) ≤ n + 1 + r) := hid fun h => by
       have a := D.out hle
       have b := H (by omega)
       have e : sumTo (fun j => 1 + match es[j]? with | some x => nodesL d x.l | none => 0) (k + 1) = sumTo (fun j => 1 + match es[j]? with | some x => nodesL d x.l | none => 0) k + (1 + match es[k]? with | some x => nodesL d x.l | none => 0) := rfl
       rw [e, O.out]
       push_cast
       omega
      clear X N H D I c5
      go_wp2
      go_roundw
      case rel => exact ⟨k + 1, n + 1 + r, by omega, by go_num, by first | rfl | go_num, by first | rfl | trivial, by omega, by omega, B⟩
      case measure => simp [intOf]; omega
    · have q : ¬ n ≤ 5000 := hle
      go_wp2
      go_ret
      exact ⟨_, rfl, fun h => absurd h (by simp), C.out⟩
  · obtain rfl : k = es.length := by omega
    have B := hid D.out
    clear D
    by_cases hle : n ≤ 5000
    · by_cases H : es.length ≤ 300
      · go_wp2
        go_ret
        exact ⟨_, rfl, fun _ => by have h := B.out hle; unfold nodesG; omega, C.out⟩
      · go_wp2
        go_ret
        exact ⟨_, rfl, fun _ => by have h := B.out hle; unfold nodesG; omega, C.out⟩
    · go_wp2
      go_ret
      exact ⟨_, rfl, fun h => absurd h (by simp), C.out⟩
theorem great27_any {w : World} {ps : List Iv} (hp : pn ≤ 9223372036854775807) (ha : IvsAt w Z BA bc ps) :
  Calls Tryz.prog 26 #[.slice PA pn pc, .slice BA ps.length bc] w (SaysNo (∀ p ∈ ps, p.l0.length ≤ 100 ∧ p.l1.length ≤ 100) w) := by
 have C : Hid (Calls Tryz.prog 65 #[.slice BA ps.length bc, .int .i64 100, .int .i64 100] w fun e w' => e = .returned (.bool (greatF ps 100 100)) ∧ Below w.heap.size w w') := hid (great17_any (M := 100) (K := 100) ha (by omega) (by omega))
 have F := ha.len
 obtain ⟨g, B⟩ : ∃ g, greatF ps 100 100 = g := ⟨_, rfl⟩
 rw [B] at C
 have D := hid B
 clear ha B
 generalize ps.length = n at *
 by_cases h : 100 < pn
 · go_enter Tryz.func26, Tryz.ntmps26
   go_wp2
   go_ret
   exact ⟨_, rfl, fun h => absurd h (by simp), Below.refl _ _⟩
 · go_enter Tryz.func26, Tryz.ntmps26
   go_wp2_with fail
   refine C.out.mono ?_
   rintro e G ⟨rfl, E⟩
   go_wp2
   go_ret
   exact ⟨_, rfl, fun h => (greatF_no (D.out.trans (by rw [Bool.or_eq_false_iff] at h; exact h.2))).2, E⟩
theorem twos_le {na : Int} : ∀ {d : Nat} {x : Ex}, mayE V na (d + 1) x = true → 2 * twos (d + 1) x ≤ nodesL d x.l
 | _, .mk k nm n [] p, h => by simp [twos]
 | 0, .mk k nm n (a :: l) p, h => by
   have h1 := (mayE_parts h).2.2.2 a (by simp)
   simp [mayE] at h1
 | d + 1, .mk k nm n [a] p, h => by
   have B := twos_le ((mayE_parts h).2.2.2 a (by simp))
   have e : nodesL (d + 1) [a] = 0 + (1 + nodesL d a.l) := rfl
   show 2 * twos (d + 1) a ≤ nodesL (d + 1) [a]
   rw [e]
   omega
 | d + 1, .mk k nm n [a, b] p, h => by
   have B := twos_le ((mayE_parts h).2.2.2 a (by simp))
   have C := twos_le ((mayE_parts h).2.2.2 b (by simp))
   have e : nodesL (d + 1) [a, b] = 0 + (1 + nodesL d a.l) + (1 + nodesL d b.l) := rfl
   show 2 * (twos (d + 1) a + twos (d + 1) b + 1) ≤ nodesL (d + 1) [a, b]
   rw [e]
   omega
 | d + 1, .mk k nm n (a :: b :: c :: l) p, h => by
   exfalso
   obtain ⟨D, E, A, F⟩ := mayE_parts h
   simp only [argsE, List.length_cons] at A
   split at A
   · omega
   · split at A <;> omega
theorem one_at {w : World} {k n p : Int} {nm : ByteArray} {l : List Ex} (h : BoxL w g [.int .u8 k, .string nm, .int .i64 n, .slice A l.length c, .int .i64 p]) (he : ExsAt w d A c l) : ExsAt w (d + 1) (some ⟨g, 0, none⟩) 1 [.mk k nm n l p] := by
 refine ⟨fun _ => A, fun _ => c, ⟨by simp, by omega, fun _ => ⟨g, 0, rfl, h.lt, fun j hj i hi => ?_⟩⟩, fun j hj => ?_⟩
 · obtain rfl : j = 0 := by simpa using hj
   rcases i with _ | _ | _ | _ | _ | i
   · exact h.c 0 _ rfl
   · exact h.c 1 _ rfl
   · exact h.c 2 _ rfl
   · exact h.c 3 _ rfl
   · exact h.c 4 _ rfl
   · omega
 · obtain rfl : j = 0 := by simpa using hj
   exact he
theorem ed_one {w : World} {x : Ex} (h : BoxL w g [.int .i64 0, .int .i64 0, .int .u8 0, .int .i64 0, .int .u8 0, .slice (some ⟨a, 0, none⟩) 1 1, .int .i64 0]) (p1 : ExsAt w d (some ⟨a, 0, none⟩) 1 [x]) : EdsAt w d (some ⟨g, 0, none⟩) 1 [⟨0, 0, 0, 0, 0, [x], 0⟩] (fun _ => some ⟨a, 0, none⟩) (fun _ => 1) := by
 refine ⟨⟨by simp, by omega, fun _ => ⟨g, 0, rfl, h.lt, fun j hj i hi => ?_⟩⟩, fun j hj => ?_⟩
 · obtain rfl : j = 0 := by simpa using hj
   rcases i with _ | _ | _ | _ | _ | _ | _ | i
   · exact h.c 0 _ rfl
   · exact h.c 1 _ rfl
   · exact h.c 2 _ rfl
   · exact h.c 3 _ rfl
   · exact h.c 4 _ rfl
   · exact h.c 5 _ rfl
   · exact h.c 6 _ rfl
   · omega
 · obtain rfl : j = 0 := by simpa using hj
   exact p1
theorem lgreat_any {w : World} {no st : Int} {es : List Ed} {AA : Nat → Option Addr} {CC : Nat → Nat} {x : Ex} {ps : List Iv} (he : EdsAt w d EA ce es AA CC) (hna : na ≤ 9223372036854775807) (hn : ∀ e ∈ es, nmL d e.l) (hx : ExsAt w dx XA cx x.l) (hxn : x.nm.size ≤ 140737488355328 ∧ nmL dx x.l) (hp : pn ≤ 9223372036854775807) (hb : IvsAt w Z BA bc ps) :
  Calls Tryz.prog 8 #[.agg #[.int .i64 V, .slice Aa na ca, .int .i64 no, .int .i64 st, .int .i64 la, .slice EA es.length ce], .slice PA pn pc, .slice BA ps.length bc, exV x XA cx] w (SaysNo (nodesL dx x.l ≤ 5000 ∧ ∀ p ∈ ps, p.l0.length ≤ 100 ∧ p.l1.length ≤ 100) w) := by
 obtain ⟨k, nm, n, l, p⟩ := x
 show Calls Tryz.prog 8 #[.agg #[.int .i64 V, .slice Aa na ca, .int .i64 no, .int .i64 st, .int .i64 la, .slice EA es.length ce], .slice PA pn pc, .slice BA ps.length bc, .agg #[.int .u8 k, .string nm, .int .i64 n, .slice XA l.length cx, .int .i64 p]] w _
 obtain ⟨I, c, C, J, g, K, L, M, i⟩ := al5 w [.int .i64 V, .slice Aa na ca, .int .i64 no, .int .i64 st, .int .i64 la, .slice EA es.length ce] 25 [.int .u8 k, .string nm, .int .i64 n, .slice XA l.length cx, .int .i64 p] 29 [.int .u8 k, .string nm, .int .i64 n, .slice XA l.length cx, .int .i64 p] 29 [.int .i64 0, .int .i64 0, .int .u8 0, .int .i64 0, .int .u8 0, .slice (some ⟨w.heap.size + 2, 0, none⟩) 1 1, .int .i64 0] 73 [.int .i64 0, .slice none 0 0, .int .i64 0, .int .i64 0, .int .i64 0, .slice (some ⟨w.heap.size + 3, 0, none⟩) 1 1] 25
 have Q := hid J.b
 have G := K.b
 have H := L.b
 have R := hid M.b
 have D := ed_one H (one_at G (hx.below C))
 obtain ⟨N, HE, O⟩ := hid3 C D (fgreat_any (V := V) (nodes := no) (start := st) (last := la) (Aa := Aa) (ca := ca) (he.below C) hna hn)
 have S := hid (fun (W : World) (h : Below I.heap.size I W) => fgreat_any (w := W) (V := 0) (nodes := 0) (start := 0) (last := 0) (Aa := none) (na := 0) (ca := 0) (D.below h) (by omega) (fun e he => by
  simp at he
  subst he
  exact fun x hx => by
   simp at hx
   subst hx
   exact hxn))
 have T := hid (fun (W : World) (h : Below w.heap.size w W) => great27_any (w := W) (PA := PA) (pc := pc) hp (hb.below h))
 have Ka := hb.len
 obtain ⟨j, m, o, q, r, s⟩ := Q.out.all6
 clear J g K L M i
 clear C G H D he hn hx hxn hb
 go_enter Tryz.func8, Tryz.ntmps8
 go_wp2_with fail
 refine O.out.mono ?_
 rintro e w2 ⟨u, rfl, _, B⟩
 clear j m o q r s c O
 cases u
 case true =>
  have hb := from_ N.out B
  clear B
  go_wp2
  go_ret
  exact ⟨_, rfl, fun h => absurd h (by simp), hb⟩
 obtain ⟨v, y⟩ := hid2 B (from_ N.out B)
 obtain ⟨z, o1, o2, o3, o4, o5⟩ := (R.out.below B).all6
 clear B
 go_wp2_with fail
 refine (S.out _ v.out).mono ?_
 rintro e w3 ⟨b2, rfl, F, B⟩
 have E := hid (from_ y.out B)
 clear z o1 o2 o3 o4 o5
 cases b2
 case true =>
  clear B F
  go_wp2
  go_ret
  exact ⟨_, rfl, fun h => absurd h (by simp), E.out⟩
 have U := hid (F rfl)
 clear B F
 go_wp2_with fail
 refine (T.out _ E.out).mono ?_
 rintro e w4 ⟨b3, rfl, P, B⟩
 have X := from_ E.out B
 have Y := hid P
 clear B P
 go_wp2
 go_ret
 exact ⟨_, rfl, fun h => ⟨by have a := U.out; rw [show nodesG (dx + 1) [⟨0, 0, 0, 0, 0, [.mk k nm n l p], 0⟩] = 0 + (1 + (0 + (1 + nodesL dx l))) from rfl] at a; show nodesL dx l ≤ 5000; omega, Y.out h⟩, X⟩
def lkB (pk : Nat → Int) (pn : Nat) (ps : List Iv) (sz : Nat → Int) : LkB := ⟨pk, pn, fun j => ((ps[j]?).map fun p => (p.lo, p.hi)).getD (0, 0), sz⟩
structure OfS (V : Int) (na : Nat) (pk : Nat → Int) (pn : Nat) (ps : List Iv) (sz : Nat → Int) (d : Nat) (x : Ex) : Prop where
 v : (0 ≤ V ∧ V ≤ 32) ∧ na ≤ 4
 s : ∀ j, j < na → 1 ≤ sz j ∧ sz j ≤ 16
 l : (ps.length : Int) = V
 b : ∀ p ∈ ps, inb p = true
 p : pn ≤ 6 ∧ ∀ j, j < pn → 0 ≤ pk j ∧ pk j < V
 m : mayE V na (d + 1) x = true
theorem inb_in {p : Iv} (h : inb p = true) (s0 : Small p.l0) (s1 : Small p.l1) (q0 : p.l0.length ≤ 6000) (q1 : p.l1.length ≤ 6000) : IvW (p.lo, p.hi) p ∧ InAll (p.lo, p.hi) := by
 unfold inb at h
 rw [Bool.and_eq_true] at h
 obtain ⟨B, C⟩ := h
 obtain ⟨a, b⟩ := itwJ_of B s0 s1 q0 q1 (Nat.le_refl _)
 have A := of_decide_eq_true C
 exact ⟨a, A.1, b.le, A.2⟩
theorem lkB_bx {pk : Nat → Int} {ps : List Iv} {sz : Nat → Int} (hj : j < ps.length) : (lkB pk pn ps sz).bx j = (ps[j].lo, ps[j].hi) := by
 simp [lkB, List.getElem?_eq_getElem hj]
theorem OfS.ok {pk sz : Nat → Int} {ps : List Iv} {x : Ex} (h : OfS V na pk pn ps sz d x) (hi : i64E (d + 1) x) (hsm : ∀ p ∈ ps, Small p.l0 ∧ Small p.l1) (hl : ∀ p ∈ ps, p.l0.length ≤ 6000 ∧ p.l1.length ≤ 6000) (ht : nodesL d x.l ≤ 5000) (ho : (lkE (lkB pk pn ps sz) (d + 1) x).ok = true) : InAll (lkE (lkB pk pn ps sz) (d + 1) x).P ∧ FmB (pn + 1) 2901 (lkE (lkB pk pn ps sz) (d + 1) x).fs := by
 have F := twos_le h.m
 obtain ⟨D, E⟩ := lkE_ok (B := lkB pk pn ps sz) (fun n h0 h1 => by
  have C : n.toNat < ps.length := by have := h.l; omega
  rw [lkB_bx C]
  have A := List.getElem_mem C
  exact (inb_in (h.b _ A) (hsm _ A).1 (hsm _ A).2 (hl _ A).1 (hl _ A).2).2) h.m hi (by omega) ho
 exact ⟨D, E.up (by omega)⟩
def OfY (V : Int) (na : Nat) (pk : Nat → Int) (pn : Nat) (ps : List Iv) (sz : Nat → Int) (no st la : Int) (d dx : Nat) (es : List Ed) (x : Ex) : Prop := OkH V na sz no st la d es ∧ (decide ((ps.length : Int) = V) && ps.all inb) = true ∧ (pn ≤ 6 ∧ Asc (-1) V pk pn) ∧ MayH V na sz dx x
theorem lof_x {w : World} {no st : Int} {sz pk : Nat → Int} {es : List Ed} {AA : Nat → Option Addr} {CC : Nat → Nat} {ps : List Iv} {x : Ex} (ha : RowK 1 w Aa ca na (fun j _ => .int .i64 (sz j))) (he : EdsAt w d EA ce es AA CC) (hp : RowK 1 w PA pc pn (fun j _ => .int .i64 (pk j))) (hb : IvsAt w old BA bc ps) (hl : ∀ p ∈ ps, p.l0.length ≤ 6000 ∧ p.l1.length ≤ 6000) (hx : ExsAt w dx XA cx x.l) (hi : i64E (dx + 1) x) (ht : nodesL dx x.l ≤ 5000) :
  Calls Tryz.prog 9 #[.agg #[.int .i64 V, .slice Aa na ca, .int .i64 no, .int .i64 st, .int .i64 la, .slice EA es.length ce], .slice PA pn pc, .slice BA ps.length bc, exV x XA cx] w (OfP (OfS V na pk pn ps sz dx x) (OfY V na pk pn ps sz no st la d dx es x) (lkE (lkB pk pn ps sz) (dx + 1) x) w) := by
 have P : ∀ (H : SaysG V na sz no d es) (C : (decide ((ps.length : Int) = V) && ps.all inb) = true) (h3 : pn ≤ 6 ∧ ∀ j, j < pn → 0 ≤ pk j ∧ pk j < V) (h4 : mayE V na (dx + 1) x = true), OfS V na pk pn ps sz dx x := fun H C h3 h4 => by
  rw [Bool.and_eq_true] at C
  exact ⟨⟨H.1, H.2.1⟩, H.2.2.1, of_decide_eq_true C.1, List.all_eq_true.1 C.2, h3, h4⟩
 have N := hb.small
 refine (lof_any (G := ⟨V, Aa, na, ca, no, st, la, EA, es.length, ce, PA, pn, pc, BA, ps.length, bc⟩) (S1 := SaysG V na sz no d es) (S3 := pn ≤ 6 ∧ ∀ j, j < pn → 0 ≤ pk j ∧ pk j < V) (S4 := mayE V na (dx + 1) x = true) (Y := OfY V na pk pn ps sz no st la d dx es x) (R2 := decide ((ps.length : Int) = V) && ps.all inb) (R := lkE (lkB pk pn ps sz) (dx + 1) x)
  (fun W hW => (fcheck_any (he.below hW) (ha.below hW)).mono fun e O ⟨n, H, C, h3, h4⟩ => ⟨n, H, C, fun h => h3 h.1, h4⟩) (fun W hW => lboxed_any (hb.below hW) hl) (fun W hW => (lpacked_any (hp.below hW)).mono fun e O ⟨n, H, C, h3, h4⟩ => ⟨n, H, C, fun h => h3 h.2.2.1, h4⟩) (fun W hW => (lmay_any (hx.below hW) (ha.below hW)).mono fun e O ⟨n, H, C, h3, h4⟩ => ⟨n, H, C, fun h => h3 h.2.2.2, h4⟩) (fun h => h.2.1) (fun H C h3 h4 => ?_)).mono ?_
 · have M := P H C h3 h4
   have q := twos_le h4
   refine ⟨fun W lk hW hlk hk => ?_, fun ho => ?_⟩
   · refine lexpr_any (ps := ps) (B := lkB pk pn ps sz) (by rw [M.l]; exact h4) hi (by omega) hk ⟨rfl, by show pn ≤ 63; omega, hp.below hW, fun h0 b o e => ?_, (hb.below hW).mono (le_old _), fun h0 b o e => ?_, rfl, fun j hj => ?_, ha.below hW, fun h0 b o e => ?_, M.s⟩ (hx.below hW)
     · obtain ⟨J, K, L, C, _⟩ := hp.row h0
       have D : some (⟨b, o, none⟩ : Addr) = some ⟨J, K, none⟩ := e.symm.trans L
       injection D with D
       injection D with D _
       omega
     · obtain ⟨J, K, L, C, _⟩ := hb.row h0
       have D : some (⟨b, o, none⟩ : Addr) = some ⟨J, K, none⟩ := e.symm.trans L
       injection D with D
       injection D with D _
       omega
     · rw [lkB_bx hj]
       have I := List.getElem_mem hj
       exact inb_in (M.b _ I) (N _ I).1 (N _ I).2 (hl _ I).1 (hl _ I).2
     · obtain ⟨J, K, L, C, _⟩ := ha.row h0
       have D : some (⟨b, o, none⟩ : Addr) = some ⟨J, K, none⟩ := e.symm.trans L
       injection D with D
       injection D with D _
       omega
   · obtain ⟨Q, S⟩ := M.ok hi N hl ht ho
     have r := S.len
     exact ⟨Q.n (by omega), by omega, by omega⟩
 · rintro e O ⟨E, T, t, U, X, F, Z, a, c, g, f, i, wc, rfl, hb, H, m, C⟩
   exact ⟨E, T, t, U, X, F, Z, a, c, g, f, i, wc, rfl, hb, H, m, fun h => ⟨P (C h).1.1 (C h).1.2.1 (C h).1.2.2.1 (C h).1.2.2.2, (C h).2⟩⟩
theorem IvW.eq (h : IvW P t) : t = ivOf P.1 P.2 := by
 obtain ⟨⟨a, b, c⟩, d, e, f⟩ := h
 cases t
 simp_all [ivOf]
theorem row_one {w : World} {z : Int} (h : BoxL w g [.int .i64 z]) : RowK 1 w (some ⟨g, 0, none⟩) 1 1 (fun _ _ => .int .i64 z) := ⟨by omega, by omega, fun _ => ⟨g, 0, rfl, h.lt, fun j hj i hi => by
 obtain rfl : j = 0 := by omega
 obtain rfl : i = 0 := by omega
 exact h.c 0 _ rfl⟩⟩
theorem ivs_one {w : World} (h : BoxL w g [.bool q.n0, .bool q.s0, .slice C q.l0.length c, .bool q.n1, .bool q.s1, .slice D q.l1.length d]) (u1 : U64s w old C c q.l0) (u2 : U64s w old D d q.l1) : IvsAt w old (some ⟨g, 0, none⟩) 1 [q] := ⟨by simp, by omega, fun _ => ⟨g, 0, rfl, h.lt, fun j hj => by
 obtain rfl : j = 0 := by simpa using hj
 exact ⟨C, c, D, d, ⟨h.c 0 _ rfl, h.c 1 _ rfl, h.c 2 _ rfl, h.c 3 _ rfl, h.c 4 _ rfl, h.c 5 _ rfl⟩, u1, u2⟩⟩⟩
theorem lk_add (h0 : q.lo = 0) (h1 : q.hi = 9) : ∃ m, lkE (lkB (fun _ => 0) 1 [q] fun _ => 0) 2 (.mk 5 ⟨#[]⟩ 0 [.mk 2 ⟨#[]⟩ 0 [] 0, .mk 1 ⟨#[]⟩ 1 [] 0] 0) = ⟨true, (1, 10), [(1, 1), (1, 1)], m⟩ ∧ marksL m 6 = [] := by
 have A : (lkB (fun _ => 0) 1 [q] fun _ => 0).bx 0 = (0, 9) := by
  show (q.lo, q.hi) = (0, 9)
  rw [h0, h1]
 have B : ivA (0, 9) (1, 1) = (1, 10) := by decide +kernel
 have C : addLL (varL 1 1) (constL 1 (1, 1)) = [(1, 1), (1, 1)] := by decide +kernel
 have D : meetOk (1, 10) allP = true := by decide
 have E : meetZ (1, 10) allP = (1, 10) := by decide
 have F : keepIn (1, 10) allP = true := by decide
 have G : lkE (lkB (fun _ => 0) 1 [q] fun _ => 0) 1 (.mk 2 ⟨#[]⟩ 0 [] 0) = ⟨true, (0, 9), varL 1 1, noR⟩ := by
  show scalR _ 0 = _
  unfold scalR
  have e : (0 : Int).toNat = 0 := rfl
  rw [e, A]
  rfl
 have H : lkE (lkB (fun _ => 0) 1 [q] fun _ => 0) 1 (.mk 1 ⟨#[]⟩ 1 [] 0) = ⟨true, (1, 1), constL 1 (1, 1), noR⟩ := rfl
 have I : lkE (lkB (fun _ => 0) 1 [q] fun _ => 0) 2 (.mk 5 ⟨#[]⟩ 0 [.mk 2 ⟨#[]⟩ 0 [] 0, .mk 1 ⟨#[]⟩ 1 [] 0] 0) = seqR ⟨true, (0, 9), varL 1 1, noR⟩ ⟨true, (1, 1), constL 1 (1, 1), noR⟩ (rngR (1, 10) [(1, 1), (1, 1)]) := by
  rw [lkE]
  rw [G, H]
  have o : opR (lkB (fun _ => 0) 1 [q] fun _ => 0).pn 5 ⟨true, (0, 9), varL 1 1, noR⟩ ⟨true, (1, 1), constL 1 (1, 1), noR⟩ = rngR (ivA (0, 9) (1, 1)) (addLL (varL 1 1) (constL 1 (1, 1))) := by simp [opR]
  rw [o, B, C]
 refine ⟨_, I.trans (by unfold seqR rngR; rw [if_pos rfl, if_pos rfl, D, E]), ?_⟩
 unfold marksL
 rw [List.filter_eq_nil_iff]
 intro j _
 simp [orF, noR, F]
theorem lof_addX {w : World} {gE gI gP gX : Nat} (hq : IvW (0, 9) q) (hE : BoxL w gE [.int .i64 0, .int .i64 1, .int .u8 1, .int .i64 0, .int .u8 0, .slice none 0 0, .int .i64 0]) (hI : BoxL w gI [.bool q.n0, .bool q.s0, .slice C q.l0.length c, .bool q.n1, .bool q.s1, .slice D q.l1.length d]) (u1 : U64s w old C c q.l0) (u2 : U64s w old D d q.l1) (hP : BoxL w gP [.int .i64 0]) (hX : BoxL w gX [.int .u8 2, .string ⟨#[]⟩, .int .i64 0, .slice none 0 0, .int .i64 0, .int .u8 1, .string ⟨#[]⟩, .int .i64 1, .slice none 0 0, .int .i64 0]) :
  Calls Tryz.prog 9 #[.agg #[.int .i64 1, .slice none 0 0, .int .i64 2, .int .i64 0, .int .i64 1, .slice (some ⟨gE, 0, none⟩) 1 1], .slice (some ⟨gP, 0, none⟩) 1 1, .slice (some ⟨gI, 0, none⟩) 1 1, .agg #[.int .u8 5, .string ⟨#[]⟩, .int .i64 0, .slice (some ⟨gX, 0, none⟩) 2 2, .int .i64 0]] w fun e w' => ∃ sA sa sB sb F f WA wc, e = .returned (.tuple #[.agg #[.bool false, .bool (ivOf 1 10).n0, .bool (ivOf 1 10).s0, .slice sA (ivOf 1 10).l0.length sa, .bool (ivOf 1 10).n1, .bool (ivOf 1 10).s1, .slice sB (ivOf 1 10).l1.length sb, .slice F 2 f, .slice WA 0 wc], .int .i64 0]) ∧ U64s w' old sA sa (ivOf 1 10).l0 ∧ U64s w' old sB sb (ivOf 1 10).l1 ∧ IvsAt w' old F f [ivOf 1 1, ivOf 1 1] ∧ Below w.heap.size w w' := by
 have I : IvN 6000 ((0, 9) : IvP).1 ((0, 9) : IvP).2 := iv_n (by decide) (by decide) (by decide) (by omega)
 have k := hq.k I (by omega)
 have G : q.lo = 0 := k.lo
 have H : q.hi = 9 := k.hi
 have J : inb q = true := by
  have B : q.ok = true := k.ok
  unfold inb
  rw [B, G, H]
  decide
 obtain ⟨m, M, N⟩ := lk_add G H
 have h := lof_x (w := w) (V := 1) (no := 2) (st := 0) (la := 1) (Aa := none) (na := 0) (ca := 0) (EA := some ⟨gE, 0, none⟩) (ce := 1) (PA := some ⟨gP, 0, none⟩) (pn := 1) (pc := 1) (BA := some ⟨gI, 0, none⟩) (bc := 1) (XA := some ⟨gX, 0, none⟩) (cx := 2) (d := 0) (dx := 1) (sz := fun _ => 0) (pk := fun _ => 0) (es := ed1) (ps := [q]) (x := (.mk 5 ⟨#[]⟩ 0 [.mk 2 ⟨#[]⟩ 0 [] 0, .mk 1 ⟨#[]⟩ 1 [] 0] 0)) (RowK.nil 1 w _) (ed1_at hE) (row_one hP) (ivs_one hI u1 u2) (fun p hp => by
  have e : p = q := by simpa using hp
  subst e
  have := k.q0
  have := k.q1
  omega) (two_at hX) (by simp [i64E]) (by decide)
 rw [M] at h
 refine h.mono ?_
 rintro e w' ⟨E, nn, t, sA, sB, F, WA, sa, sb, a, f, O, wc, rfl, P, _, Q, R⟩
 obtain rfl := Q ⟨⟨ed1_ok, fun j hj => absurd hj (by omega)⟩, by simp [J], ⟨by omega, fun j hj => by
  obtain rfl : j = 0 := by omega
  simp⟩, by omega, by omega, fun j hj => absurd hj (by omega), by decide⟩
 obtain ⟨_, S, T⟩ := R rfl
 obtain ⟨B, U, W, X, Y, Z⟩ := S
 have K := IvW.eq U
 have L : O = 0 := by rw [T.1, N]; rfl
 subst K B Y L
 exact ⟨sA, sa, sB, sb, F, f, WA, wc, rfl, W, X, Z, P⟩
theorem c27_keepX {V : World} {g0 g1 g2 g3 x00 x01 x02 x03 x04 x05 x06 x07 x08 x10 x11 x12 x13 x14 x15 x20 x21 x22 x23 x24 x25 x30 x31 x32 x33 x34 x35 : Nat} {y00 y01 y02 y03 y04 y05 y06 y07 y08 y10 y11 y12 y13 y14 y15 y20 y21 y22 y23 y24 y25 y30 y31 y32 y33 y34 y35 : Value} (hs : (W.cell? ⟨g0, x00, none⟩ = some y00 ∧ W.cell? ⟨g0, x01, none⟩ = some y01 ∧ W.cell? ⟨g0, x02, none⟩ = some y02 ∧ W.cell? ⟨g0, x03, none⟩ = some y03 ∧ W.cell? ⟨g0, x04, none⟩ = some y04 ∧ W.cell? ⟨g0, x05, none⟩ = some y05 ∧ W.cell? ⟨g0, x06, none⟩ = some y06 ∧ W.cell? ⟨g0, x07, none⟩ = some y07 ∧ W.cell? ⟨g0, x08, none⟩ = some y08) ∧ (W.cell? ⟨g1, x10, none⟩ = some y10 ∧ W.cell? ⟨g1, x11, none⟩ = some y11 ∧ W.cell? ⟨g1, x12, none⟩ = some y12 ∧ W.cell? ⟨g1, x13, none⟩ = some y13 ∧ W.cell? ⟨g1, x14, none⟩ = some y14 ∧ W.cell? ⟨g1, x15, none⟩ = some y15) ∧ (W.cell? ⟨g2, x20, none⟩ = some y20 ∧ W.cell? ⟨g2, x21, none⟩ = some y21 ∧ W.cell? ⟨g2, x22, none⟩ = some y22 ∧ W.cell? ⟨g2, x23, none⟩ = some y23 ∧ W.cell? ⟨g2, x24, none⟩ = some y24 ∧ W.cell? ⟨g2, x25, none⟩ = some y25) ∧ (W.cell? ⟨g3, x30, none⟩ = some y30 ∧ W.cell? ⟨g3, x31, none⟩ = some y31 ∧ W.cell? ⟨g3, x32, none⟩ = some y32 ∧ W.cell? ⟨g3, x33, none⟩ = some y33 ∧ W.cell? ⟨g3, x34, none⟩ = some y34 ∧ W.cell? ⟨g3, x35, none⟩ = some y35)) (hb : Below W.heap.size W V) : (V.cell? ⟨g0, x00, none⟩ = some y00 ∧ V.cell? ⟨g0, x01, none⟩ = some y01 ∧ V.cell? ⟨g0, x02, none⟩ = some y02 ∧ V.cell? ⟨g0, x03, none⟩ = some y03 ∧ V.cell? ⟨g0, x04, none⟩ = some y04 ∧ V.cell? ⟨g0, x05, none⟩ = some y05 ∧ V.cell? ⟨g0, x06, none⟩ = some y06 ∧ V.cell? ⟨g0, x07, none⟩ = some y07 ∧ V.cell? ⟨g0, x08, none⟩ = some y08) ∧ (V.cell? ⟨g1, x10, none⟩ = some y10 ∧ V.cell? ⟨g1, x11, none⟩ = some y11 ∧ V.cell? ⟨g1, x12, none⟩ = some y12 ∧ V.cell? ⟨g1, x13, none⟩ = some y13 ∧ V.cell? ⟨g1, x14, none⟩ = some y14 ∧ V.cell? ⟨g1, x15, none⟩ = some y15) ∧ (V.cell? ⟨g2, x20, none⟩ = some y20 ∧ V.cell? ⟨g2, x21, none⟩ = some y21 ∧ V.cell? ⟨g2, x22, none⟩ = some y22 ∧ V.cell? ⟨g2, x23, none⟩ = some y23 ∧ V.cell? ⟨g2, x24, none⟩ = some y24 ∧ V.cell? ⟨g2, x25, none⟩ = some y25) ∧ (V.cell? ⟨g3, x30, none⟩ = some y30 ∧ V.cell? ⟨g3, x31, none⟩ = some y31 ∧ V.cell? ⟨g3, x32, none⟩ = some y32 ∧ V.cell? ⟨g3, x33, none⟩ = some y33 ∧ V.cell? ⟨g3, x34, none⟩ = some y34 ∧ V.cell? ⟨g3, x35, none⟩ = some y35) := by
 obtain ⟨⟨A, B, C, D, E, F, G, H, I⟩, ⟨J, K, L, M, N, O⟩, ⟨P, Q, R, S, T, U⟩, ⟨X, Y, Z, a, b, c⟩⟩ := hs
 exact ⟨⟨keepC hb A, keepC hb B, keepC hb C, keepC hb D, keepC hb E, keepC hb F, keepC hb G, keepC hb H, keepC hb I⟩, ⟨keepC hb J, keepC hb K, keepC hb L, keepC hb M, keepC hb N, keepC hb O⟩, ⟨keepC hb P, keepC hb Q, keepC hb R, keepC hb S, keepC hb T, keepC hb U⟩, ⟨keepC hb X, keepC hb Y, keepC hb Z, keepC hb a, keepC hb b, keepC hb c⟩⟩
theorem isame_yesX {w : World} {Z3 Z4 : Zone} {p : Iv} (u1 : U64s w Z1 A a p.l0) (u2 : U64s w Z2 B b p.l1) (u3 : U64s w Z3 C c p.l0) (u4 : U64s w Z4 D d p.l1) :
  Calls Tryz.prog 13 #[.agg #[.bool p.n0, .bool p.s0, .slice A p.l0.length a, .bool p.n1, .bool p.s1, .slice B p.l1.length b], .agg #[.bool p.n0, .bool p.s0, .slice C p.l0.length c, .bool p.n1, .bool p.s1, .slice D p.l1.length d]] w fun e w' => e = .returned (.bool true) ∧ Below w.heap.size w w' := by
 refine (isame_any (n0 := p.n0) (s0 := p.s0) (n1 := p.n1) (s1 := p.s1) (m0 := p.n0) (t0 := p.s0) (m1 := p.n1) (t1 := p.s1) u1 u2 u3 u4).mono ?_
 rintro e w' ⟨rfl, h⟩
 exact ⟨by simp, h⟩
theorem iof_kX {w : World} {y : Int} {k : Iv} (hk : k = ivOf x y) (hx : -9223372036854775808 ≤ x ∧ x ≤ 9223372036854775807) (hy : -9223372036854775808 ≤ y ∧ y ≤ 9223372036854775807) (h : x ≤ y) :
  Calls Tryz.prog 24 #[.int .i64 x, .int .i64 y] w fun e w' => ∃ A c B d, e = .returned (.tuple #[.agg #[.bool k.n0, .bool k.s0, .slice A k.l0.length c, .bool k.n1, .bool k.s1, .slice B k.l1.length d], .int .i64 0]) ∧ U64s w' (new w.heap.size) A c k.l0 ∧ U64s w' (new w.heap.size) B d k.l1 ∧ Below w.heap.size w w' := by
 subst hk
 exact iof_good hx hy h
theorem l27of_addX {w : World} {f0 f1 : Iv} (hq : IvW (0, 9) q) (hr : ivOf 1 10 = r) (hf0 : ivOf 1 1 = f0) (hf1 : ivOf 1 1 = f1) :
  Calls Tryz.prog 23 #[.int .u8 5, .bool true] w fun e w' => ∃ sA sa sB sb F f WA wc, e = .returned (.tuple #[.agg #[.bool false, .bool r.n0, .bool r.s0, .slice sA r.l0.length sa, .bool r.n1, .bool r.s1, .slice sB r.l1.length sb, .slice F 2 f, .slice WA 0 wc], .bool true]) ∧ U64s w' old sA sa r.l0 ∧ U64s w' old sB sb r.l1 ∧ IvsAt w' old F f [f0, f1] ∧ Below w.heap.size w w' := by
 have Q : Below w.heap.size w (w.alloc (.cells #[.bool false, .bool false, .bool false, .slice none 0 0, .bool false, .bool false, .slice none 0 0, .slice none 0 0, .slice none 0 0] 43)) := (Below.refl _ w).alloc (Nat.le_refl _) _
 obtain ⟨V, W, X⟩ := hid3 (BoxE.new w [.bool false, .bool false, .bool false, .slice none 0 0, .bool false, .bool false, .slice none 0 0, .slice none 0 0, .slice none 0 0] 43) (l27one (w := (w.alloc (.cells #[.bool false, .bool false, .bool false, .slice none 0 0, .bool false, .bool false, .slice none 0 0, .slice none 0 0, .slice none 0 0] 43))) hq) Q
 clear Q
 go_enter Tryz.func23, Tryz.ntmps23
 go_wp2_with fail
 refine W.out.mono ?_
 rintro e Y ⟨gE, gI, C, c, D, d, rfl, Z, g, u1, u2, L⟩
 have R : Hid (w.heap.size + 1 ≤ Y.heap.size) := hid (by have := L.size; simpa using this)
 obtain ⟨_, rfl, B, _, _, _, h, i, _⟩ := al5 Y [.int .i64 1, .slice none 0 0, .int .i64 2, .int .i64 0, .int .i64 1, .slice (some ⟨gE, 0, none⟩) 1 1] 25 [.int .u8 2, .string ⟨#[]⟩, .int .i64 0, .slice none 0 0, .int .i64 0] 29 [.int .u8 1, .string ⟨#[]⟩, .int .i64 1, .slice none 0 0, .int .i64 0] 29 [.int .u8 2, .string ⟨#[]⟩, .int .i64 0, .slice none 0 0, .int .i64 0, .int .u8 1, .string ⟨#[]⟩, .int .i64 1, .slice none 0 0, .int .i64 0] 29 [.int .i64 0] 3
 have N := hid (lof_addX hq (Z.below B) (g.below B) ((u1.below B).mono (le_old _)) ((u2.below B).mono (le_old _)) i.b h.b)
 rw [hr, hf0] at N
 obtain rfl : f0 = f1 := hf0.symm.trans hf1
 clear hr hf0 hf1
 obtain ⟨O, j, m⟩ := hid3 (from_ X.out (from_ L B)) ((V.out.below L).below B) (Nat.le_trans R.out B.size)
 clear Z g u1 u2 L B h i W V X
 go_wp2_with fail
 refine N.out.mono ?_
 rintro e E ⟨sA, sa, sB, sb, F, f, WA, wc, rfl, s, u, P, I⟩
 have z : w.heap.size + 1 ≤ E.heap.size := Nat.le_trans m.out I.size
 have G : Below E.heap.size E (E.alloc (.cells #[.bool false, .bool r.n0, .bool r.s0, .slice sA r.l0.length sa, .bool r.n1, .bool r.s1, .slice sB r.l1.length sb, .slice F 2 f, .slice WA 0 wc] 43)) := (Below.refl _ E).alloc (Nat.le_refl _) _
 obtain ⟨⟨o0, o1, o2, o3, o4, o5, o6, o7, o8⟩, _⟩ := (BoxL.new E [.bool false, .bool r.n0, .bool r.s0, .slice sA r.l0.length sa, .bool r.n1, .bool r.s1, .slice sB r.l1.length sb, .slice F 2 f, .slice WA 0 wc] 43).all9
 have J := hid ((j.out.below I).below G)
 obtain ⟨⟨r0, r1, r2, r3, r4, r5, r6, r7, r8⟩, p0, p1, p2, p3, p4, p5, p6, p7, p8⟩ := J.out.b.all9
 have H := grown_set9 (E.alloc (.cells #[.bool false, .bool r.n0, .bool r.s0, .slice sA r.l0.length sa, .bool r.n1, .bool r.s1, .slice sB r.l1.length sb, .slice F 2 f, .slice WA 0 wc] 43)) w.heap.size (.bool false) (.bool r.n0) (.bool r.s0) (.slice sA r.l0.length sa) (.bool r.n1) (.bool r.s1) (.slice sB r.l1.length sb) (.slice F 2 f) (.slice WA 0 wc)
 have S := hid (J.out.put9 (.bool false) (.bool r.n0) (.bool r.s0) (.slice sA r.l0.length sa) (.bool r.n1) (.bool r.s1) (.slice sB r.l1.length sb) (.slice F 2 f) (.slice WA 0 wc))
 have K := J.out.noU (fun v hv n e => by subst e; simp at hv)
 obtain ⟨x, y⟩ := hid2 ((s.below G).keepE K H) ((u.below G).keepE K H)
 have T := hid ((P.below G).keepE (fun b o e hb => by
  subst hb
  obtain ⟨b', o', M, h2, h4⟩ := (P.below G).row (by simp)
  rw [e] at M
  injection M with M
  injection M with e1 e2
  subst e1 e2
  obtain ⟨_, _, _, _, ⟨_, _, _, _, _, c5⟩, _⟩ := h4 1 (by simp)
  have h5 := (List.getElem?_eq_some_iff.1 (J.out.cell c5)).1
  simp at h5
  omega) K H)
 have U := hid ((from_ (from_ O.out I) G).grown H (by have := O.out.size; have := I.size; simp; omega) (fun k e => by injection e; omega))
 clear H G z K s u P I O j m N
 go_upto_region 7 with fail
 go_cut [5] (fun s5 wx => s5 = .bool true ∧ wx = ((((((((((E.alloc (.cells #[.bool false, .bool r.n0, .bool r.s0, .slice sA r.l0.length sa, .bool r.n1, .bool r.s1, .slice sB r.l1.length sb, .slice F 2 f, .slice WA 0 wc] 43)).setCell ⟨w.heap.size, 0, none⟩ (.bool false)).setCell ⟨w.heap.size, 1, none⟩ (.bool r.n0)).setCell ⟨w.heap.size, 2, none⟩ (.bool r.s0)).setCell ⟨w.heap.size, 3, none⟩ (.slice sA r.l0.length sa)).setCell ⟨w.heap.size, 4, none⟩ (.bool r.n1)).setCell ⟨w.heap.size, 5, none⟩ (.bool r.s1)).setCell ⟨w.heap.size, 6, none⟩ (.slice sB r.l1.length sb)).setCell ⟨w.heap.size, 7, none⟩ (.slice F 2 f)).setCell ⟨w.heap.size, 8, none⟩ (.slice WA 0 wc)))
 case first =>
  clear x y T U S R
  go_wp2_with fail
  go_meet
  exact ⟨rfl, rfl⟩
 case rest =>
  obtain ⟨rfl, Ka⟩ := hcut
  subst Ka
  clear o0 o1 o2 o3 o4 o5 o6 o7 o8 r0 r1 r2 r3 r4 r5 r6 r7 r8 p0 p1 p2 p3 p4 p5 p6 p7 p8
  refine (‹∀ (a : Act) (w : World), Code.wp Tryz.prog Code.ret _ a w → _›) _ _ ?_
  refine wp_ret ?_
  (try simp only [Exit.then])
  change bodyPost _ _ _ _ _ _
  refine bodyPost_ret (res_Lined2 rfl _ w.heap.size rfl S.out.b) rfl ?_
  exact ⟨_, _, _, _, _, _, _, _, rfl, x.out, y.out, T.out, U.out⟩
theorem l27add_kX {w : World} (hr : r = ivOf 1 10) (hq : q = ivOf 1 1) :
  Calls Tryz.prog 23 #[.int .u8 5, .bool true] w fun e w' => ∃ sA sa sB sb F f WA wc, e = .returned (.tuple #[.agg #[.bool false, .bool r.n0, .bool r.s0, .slice sA r.l0.length sa, .bool r.n1, .bool r.s1, .slice sB r.l1.length sb, .slice F 2 f, .slice WA 0 wc], .bool true]) ∧ U64s w' old sA sa r.l0 ∧ U64s w' old sB sb r.l1 ∧ IvsAt w' old F f [q, q] ∧ Below w.heap.size w w' := by
 refine (l27of_addX (w := w) (IvW.mk (0, 9)) hr.symm hq.symm hq.symm).mono ?_
 rintro e w' ⟨sA, sa, sB, sb, F, f, WA, wc, rfl, B, C, D, E⟩
 exact ⟨sA, sa, sB, sb, F, f, WA, wc, rfl, B, C, D, E⟩
theorem alive27X (w : World) : Calls Tryz.prog 7 #[] w fun e w' => e = .returned (.bool true) ∧ Below w.heap.size w w' := by
 obtain ⟨r, hr⟩ : ∃ r, r = ivOf 1 10 := ⟨_, rfl⟩
 have OB := hid (fun W : World => iof_kX (w := W) (x := 1) (y := 10) hr (by omega) (by omega) (by omega))
 obtain ⟨q, hq⟩ : ∃ q, q = ivOf 1 1 := ⟨_, rfl⟩
 obtain ⟨OC, OA⟩ := hid2 (fun W : World => iof_kX (w := W) (x := 1) (y := 1) hq (by omega) (by omega) (by omega)) (l27add_kX (w := w) hr hq)
 clear hr hq
 go_enter Tryz.func7, Tryz.ntmps7
 go_wp2_with fail
 refine OA.out.mono ?_
 rintro e C ⟨o, s, u, v, F, f, z, wc, rfl, S1, S2, HF, Ke⟩
 obtain ⟨E, G, A5, d5, A6, d6, d, Ki, ⟨K, L, M, N, O, P⟩, b, c⟩ := HF.at (j := 1) (by simp)
 replace K : C.cell? ⟨E, G + 1 * 6, none⟩ = some (.bool q.n0) := K
 replace L : C.cell? ⟨E, G + 1 * 6 + 1, none⟩ = some (.bool q.s0) := L
 replace M : C.cell? ⟨E, G + 1 * 6 + 2, none⟩ = some (.slice A5 q.l0.length d5) := M
 replace N : C.cell? ⟨E, G + 1 * 6 + 3, none⟩ = some (.bool q.n1) := N
 replace O : C.cell? ⟨E, G + 1 * 6 + 4, none⟩ = some (.bool q.s1) := O
 replace P : C.cell? ⟨E, G + 1 * 6 + 5, none⟩ = some (.slice A6 q.l1.length d6) := P
 replace b : U64s C old A5 d5 q.l0 := b
 replace c : U64s C old A6 d6 q.l1 := c
 have H : Below C.heap.size C (C.alloc (.cells #[.bool false, .bool r.n0, .bool r.s0, .slice o r.l0.length s, .bool r.n1, .bool r.s1, .slice u r.l1.length v, .slice F 2 f, .slice z 0 wc] 43)) := (Below.refl _ C).alloc (Nat.le_refl _) _
 obtain ⟨Q, X, R, S, T, U⟩ := hid6 (BoxL.new C [.bool false, .bool r.n0, .bool r.s0, .slice o r.l0.length s, .bool r.n1, .bool r.s1, .slice u r.l1.length v, .slice F 2 f, .slice z 0 wc] 43) (from_ Ke H) (S1.below H) (S2.below H) (b.below H) (c.below H)
 replace K := keepC H K
 replace L := keepC H L
 replace M := keepC H M
 replace N := keepC H N
 replace O := keepC H O
 replace P := keepC H P
 have D := hid (And.intro K (And.intro L (And.intro M (And.intro N (And.intro O P)))))
 clear S1 S2 b c K L M N O P Ke H HF Ki
 replace d := hid d
 go_upto_region 2 with fail
 generalize (C.alloc (.cells #[.bool false, .bool r.n0, .bool r.s0, .slice o r.l0.length s, .bool r.n1, .bool r.s1, .slice u r.l1.length v, .slice F 2 f, .slice z 0 wc] 43)) = W1 at *
 go_wp2_with fail
 refine (OB.out _).mono ?_
 rintro e V ⟨E1, Kc, E2, Kd, rfl, Z, a, B⟩
 have I : Below V.heap.size V (V.alloc (.cells #[.bool r.n0, .bool r.s0, .slice E1 r.l0.length Kc, .bool r.n1, .bool r.s1, .slice E2 r.l1.length Kd] 39)) := (Below.refl _ V).alloc (Nat.le_refl _) _
 obtain ⟨g, i, m⟩ := hid3 (BoxL.new V [.bool r.n0, .bool r.s0, .slice E1 r.l0.length Kc, .bool r.n1, .bool r.s1, .slice E2 r.l1.length Kd] 39) (Z.below I) (a.below I)
 replace B := from_ B I
 replace Q := hid (Q.out.below B)
 replace R := hid (R.out.below B)
 replace S := hid (S.out.below B)
 replace T := hid (T.out.below B)
 replace U := hid (U.out.below B)
 replace D := hid (And.intro (keepC B D.out.1) (And.intro (keepC B D.out.2.1) (And.intro (keepC B D.out.2.2.1) (And.intro (keepC B D.out.2.2.2.1) (And.intro (keepC B D.out.2.2.2.2.1) (keepC B D.out.2.2.2.2.2))))))
 replace X := hid (from_ X.out B)
 clear Z a B I
 go_wp2_with fail
 refine (OC.out _).mono ?_
 rintro e J ⟨G1, Ka, G2, Kb, rfl, Z, a, B⟩
 have I : Below J.heap.size J (J.alloc (.cells #[.bool q.n0, .bool q.s0, .slice G1 q.l0.length Ka, .bool q.n1, .bool q.s1, .slice G2 q.l1.length Kb] 39)) := (Below.refl _ J).alloc (Nat.le_refl _) _
 obtain ⟨BC, Kf, Kg⟩ := hid3 (BoxL.new J [.bool q.n0, .bool q.s0, .slice G1 q.l0.length Ka, .bool q.n1, .bool q.s1, .slice G2 q.l1.length Kb] 39) (Z.below I) (a.below I)
 replace B := from_ B I
 replace Q := hid (Q.out.below B)
 replace g := hid (g.out.below B)
 replace R := hid (R.out.below B)
 replace S := hid (S.out.below B)
 replace T := hid (T.out.below B)
 replace U := hid (U.out.below B)
 replace i := hid (i.out.below B)
 replace m := hid (m.out.below B)
 replace D := hid (And.intro (keepC B D.out.1) (And.intro (keepC B D.out.2.1) (And.intro (keepC B D.out.2.2.1) (And.intro (keepC B D.out.2.2.2.1) (And.intro (keepC B D.out.2.2.2.2.1) (keepC B D.out.2.2.2.2.2))))))
 replace X := hid (from_ X.out B)
 clear Z a B I
 go_upto_region 4 with fail
 obtain rfl := d.out
 clear d
 generalize (J.alloc (.cells #[.bool q.n0, .bool q.s0, .slice G1 q.l0.length Ka, .bool q.n1, .bool q.s1, .slice G2 q.l1.length Kb] 39)) = WZ at *
 obtain ⟨Kj, Kk⟩ := hid2 (fun (W : World) (h : Below WZ.heap.size WZ W) => isame_yesX (R.out.below h) (S.out.below h) (i.out.below h) (m.out.below h)) (fun (W : World) (h : Below WZ.heap.size WZ W) => isame_yesX (T.out.below h) (U.out.below h) (Kf.out.below h) (Kg.out.below h))
 have hs := c27_keepX (And.intro Q.out.all9.1 (And.intro g.out.all6 (And.intro BC.out.all6 D.out))) (Below.refl _ WZ).drew
 have Y := hid (Below.refl WZ.heap.size WZ).drew
 clear Q g BC R S T U i m Kf Kg D OA OB OC
 first | go_region_held3 (fun w' => (D6 w' C.heap.size (.bool false) (.bool r.n0) (.bool r.s0) (.slice o r.l0.length s) (.bool r.n1) (.bool r.s1) (w'.cell? ⟨C.heap.size, 6, none⟩ = some (.slice u r.l1.length v) ∧ w'.cell? ⟨C.heap.size, 7, none⟩ = some (.slice (some ⟨E, G, none⟩) 2 f) ∧ w'.cell? ⟨C.heap.size, 8, none⟩ = some (.slice z 0 wc))) ∧ (C6 w' V.heap.size (.bool r.n0) (.bool r.s0) (.slice E1 r.l0.length Kc) (.bool r.n1) (.bool r.s1) (.slice E2 r.l1.length Kd)) ∧ (C6 w' J.heap.size (.bool q.n0) (.bool q.s0) (.slice G1 q.l0.length Ka) (.bool q.n1) (.bool q.s1) (.slice G2 q.l1.length Kb)) ∧ (w'.cell? ⟨E, G + 1 * 6, none⟩ = some (.bool q.n0) ∧ w'.cell? ⟨E, G + 1 * 6 + 1, none⟩ = some (.bool q.s0) ∧ w'.cell? ⟨E, G + 1 * 6 + 2, none⟩ = some (.slice A5 q.l0.length d5) ∧ w'.cell? ⟨E, G + 1 * 6 + 3, none⟩ = some (.bool q.n1) ∧ w'.cell? ⟨E, G + 1 * 6 + 4, none⟩ = some (.bool q.s1) ∧ w'.cell? ⟨E, G + 1 * 6 + 5, none⟩ = some (.slice A6 q.l1.length d6)))
  (first | with_reducible exact hs)
  (first
   | (go_at_call 13; (first | (with_reducible refine (Kj.out _ Y.out).mono ?_) | (with_reducible refine (Kk.out _ Y.out).mono ?_)); rintro e w7 ⟨rfl, Kh⟩; replace hs := c27_keepX hs Kh; replace Y := hid (from_ Y.out Kh))) | fail
 all_goals
  go_wp2
  go_ret
  exact ⟨by first | rfl | trivial, from_ X.out Y.out⟩
end Go.Proofs.YtdncgncijbnjpaaGreat
