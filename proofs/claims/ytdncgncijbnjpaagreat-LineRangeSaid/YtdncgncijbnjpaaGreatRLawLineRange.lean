/- facetroomlaw27.LineRange: the walk. Conditions: names are of at most 2^47 bytes. -/
import Derived.BigQuiet
import Derived.Deep.DeepCutAuto
import Derived.Test.YtdncgncijbnjpaaGreatRLpC
import Derived.Test.YtdncgncijbnjpaaGreatRFrameG
set_option linter.unusedVariables false
set_option linter.unusedSimpArgs false
set_option maxRecDepth 100000
set_option maxHeartbeats 40000000
namespace Go.Proofs.YtdncgncijbnjpaaGreat
open Go.Lib (hid)
open Go.RowKit
variable {Aa EA PA XA : Option Addr} {V la : Int} {ca ce cx j na pc pn : Nat}
theorem marksL_up (m : Nat → Bool) (k : Nat) {i : Nat} (hi : i < j) (hj : j < (marksL m k).length) : (marksL m k)[i] < (marksL m k)[j] := by
 have h : (marksL m k).Pairwise (· < ·) := by
  unfold marksL
  exact List.Pairwise.filter _ (List.pairwise_lt_range (n := k))
 exact List.pairwise_iff_getElem.1 h i j (by omega) hj hi
theorem mk_at {w : World} {A : Option Addr} {c n : Nat} {m : Nat → Bool} (h : MkL w A c n m) (hj : j + 1 < n) : ∃ (b o : Nat) (x y : Int), A = some ⟨b, o, none⟩ ∧ w.cell? ⟨b, o + (j + 1), none⟩ = some (.int .u8 x) ∧ w.cell? ⟨b, o + j, none⟩ = some (.int .u8 y) ∧ y < x := by
 obtain ⟨rfl, F⟩ := h
 obtain ⟨b, o, e, _, D⟩ := F.row (by omega)
 have B := D (j + 1) hj 0 (by omega)
 have C := D j (by omega) 0 (by omega)
 rw [Nat.mul_one, Nat.add_zero] at B C
 refine ⟨b, o, _, _, e, B, C, ?_⟩
 rw [List.getElem?_eq_getElem hj, List.getElem?_eq_getElem (by omega)]
 have E : (marksL m 6)[j] < (marksL m 6)[j + 1] := marksL_up m 6 (Nat.lt_succ_self j) hj
 exact Int.ofNat_lt.2 E
theorem llr_walk {w : World} {no st : Int} {BA : Option Addr} {bn bc L : Nat} {esl : Nat} {k n p : Int} {nm : ByteArray} {R : LR} {S T Y : Prop} (hp : pn ≤ 9223372036854775807)
  (hGR : ∀ W, Below w.heap.size w W → Calls Tryz.prog 8 #[.agg #[.int .i64 V, .slice Aa na ca, .int .i64 no, .int .i64 st, .int .i64 la, .slice EA esl ce], .slice PA pn pc, .slice BA bn bc, .agg #[.int .u8 k, .string nm, .int .i64 n, .slice XA L cx, .int .i64 p]] W (SaysNo T W))
  (hOF : T → ∀ W, Below w.heap.size w W → Calls Tryz.prog 9 #[.agg #[.int .i64 V, .slice Aa na ca, .int .i64 no, .int .i64 st, .int .i64 la, .slice EA esl ce], .slice PA pn pc, .slice BA bn bc, .agg #[.int .u8 k, .string nm, .int .i64 n, .slice XA L cx, .int .i64 p]] W (OfP S Y R W))
  (hR : T → S → R.ok = true → InAll R.P ∧ FmB (pn + 1) 2901 R.fs ∧ pn ≤ 6) :
  Calls Tryz.prog 3 #[.agg #[.int .i64 V, .slice Aa na ca, .int .i64 no, .int .i64 st, .int .i64 la, .slice EA esl ce], .slice PA pn pc, .slice BA bn bc, .agg #[.int .u8 k, .string nm, .int .i64 n, .slice XA L cx, .int .i64 p]] w fun e w' => e = .returned (.bool true) ∧ Below w.heap.size w w' := by
 obtain ⟨W1, KE, Kt, Kv, Kw, KF⟩ := al2 w [.int .i64 V, .slice Aa na ca, .int .i64 no, .int .i64 st, .int .i64 la, .slice EA esl ce] 25 [.int .u8 k, .string nm, .int .i64 n, .slice XA L cx, .int .i64 p] 29
 obtain ⟨O, Q, J, Kx, Ky, Kd⟩ := hid6 Kv.b Kw.b Kt hGR hOF hR
 have AL := hid alive27X
 clear Kv Kw KF
 clear Kt hGR hOF hR
 go_enter Tryz.func3, Tryz.ntmps3
 go_wp2_with fail
 refine (AL.out _).mono ?_
 rintro e w2 ⟨rfl, B⟩
 replace O := hid (O.out.below B)
 replace Q := hid (Q.out.below B)
 replace J := hid (from_ J.out B)
 clear B KE AL
 obtain ⟨g0, g1, g2, g3, g4, g5⟩ := O.out.all6
 obtain ⟨x0, x1, x2, x3, x4⟩ := Q.out.all5
 go_wp2_with fail
 refine (Kx.out _ J.out).mono ?_
 rintro e w3 ⟨bG, rfl, hT, B⟩
 replace O := hid (O.out.below B)
 replace Q := hid (Q.out.below B)
 replace J := hid (from_ J.out B)
 have U := hid hT
 clear B hT Kx g0 g1 g2 g3 g4 g5 x0 x1 x2 x3 x4
 cases bG
 case true =>
  clear O Q U
  go_wp2
  go_ret
  exact ⟨by first | rfl | trivial, J.out⟩
 replace U := hid (U.out (by first | rfl | trivial))
 obtain ⟨g0, g1, g2, g3, g4, g5⟩ := O.out.all6
 obtain ⟨x0, x1, x2, x3, x4⟩ := Q.out.all5
 have Kq := hid (Ky.out U.out _ J.out)
 clear O Q Ky
 go_wp2_with fail
 refine Kq.out.mono ?_
 rintro e G ⟨E, nn, t, sA, sB, F, z, sa, sb, nf, f, H, wc, rfl, B, Km, _, Kn⟩
 have s := (Below.refl G.heap.size G).alloc (Nat.le_refl _) (.cells #[.bool nn, .bool t.n0, .bool t.s0, .slice sA t.l0.length sa, .bool t.n1, .bool t.s1, .slice sB t.l1.length sb, .slice F nf f, .slice z H wc] 43)
 obtain ⟨I, Ke⟩ := hid2 (BoxL.new G [.bool nn, .bool t.n0, .bool t.s0, .slice sA t.l0.length sa, .bool t.n1, .bool t.s1, .slice sB t.l1.length sb, .slice F nf f, .slice z H wc] 43) (from_ J.out (from_ B s))
 clear Kq g0 g1 g2 g3 g4 g5 x0 x1 x2 x3 x4 B J
 by_cases hE : E = 0
 case neg =>
  have t0 : (E == 0) = false := beq_eq_false_iff_ne.2 hE
  have t1 : (E != 0) = true := bne_iff_ne.2 hE
  obtain ⟨rfl, rfl⟩ := Km hE
  obtain ⟨⟨z0, z1, z2, z3, z4, z5, z6, z7, v⟩, _⟩ := I.out.all9
  clear Km Kn hE s U Kd I
  go_wp2
  go_ret
  exact ⟨by first | rfl | trivial, Ke.out⟩
 subst hE
 obtain ⟨hS, X, hM⟩ := Kn rfl
 have m := X.no
 have Ka := X.nf
 clear Km Kn
 cases nn
 case true =>
  have Z : R.ok = false := by cases h : R.ok with | true => rw [h] at m; cases m | false => rfl
  obtain rfl : nf = 0 := by rw [Ka]; unfold LR.fz; rw [Z]; rfl
  obtain ⟨⟨z0, z1, z2, z3, z4, z5, z6, z7, v⟩, _⟩ := I.out.all9
  clear m Ka Z hS X hM s U Kd I
  go_wp2
  go_ret
  exact ⟨by first | rfl | trivial, Ke.out⟩
 have Z : R.ok = true := by cases h : R.ok with | true => rfl | false => rw [h] at m; cases m
 obtain ⟨Kf, Kg, KL⟩ := Kd.out U.out hS Z
 have Kr : R.Pz = R.P := by unfold LR.Pz; rw [Z]; rfl
 have Ki : R.fz = R.fs := by unfold LR.fz; rw [Z]; rfl
 rw [Ki, Kg.len] at Ka
 subst Ka
 have Kj := X.iv
 rw [Kr] at Kj
 have Kk := X.fm
 rw [Ki] at Kk
 obtain ⟨q, hq⟩ : ∃ r, IvW allP r := ⟨_, IvW.mk _⟩
 obtain ⟨Ko, Kp⟩ := hid2 (fun W : World => lall_r (w := W) hq) (fun (W : World) (h : Below G.heap.size G W) (C D : Option Addr) (c d K : Nat) (u3 : U64s W (new K) C c q.l0) (u4 : U64s W (new K) D d q.l1) => iin_w (w := W) Kj (Kf.n (N := 6000) (by omega)) hq allP_n (X.a.below h) (X.b.below h) u3 u4 (r := true) (decide_eq_true ⟨Kf.1, Kf.2.2⟩))
 have Kl := hid (fun (W : World) (h : Below G.heap.size G W) => by
  have hw := Kg.w (by omega)
  have hl : (fmOf R.fs).length = pn + 1 := by rw [fmOf_len]; exact Kg.len
  have h1 := lcheck_any (Kk.below h) (hw.short (by omega))
  rw [hw.err (by omega) ⟨by omega, by omega⟩, hl] at h1
  exact h1)
 have HM := hid (fun (W : World) (h : Below G.heap.size G W) => (⟨hM.1, hM.2.below h⟩ : MkL W z wc H R.mrk))
 have KI : H ≤ 6 := by rw [hM.1]; exact marksL_le _ _
 have Kb := hid s
 clear m Z Kf Kg Kr Ki Kj Kk hq hS X hM s U Kd
 have h0 := I.out.c 0 _ rfl
 go_upto_region 7 with fail
 clear h0
 obtain ⟨M, Kh⟩ : ∃ W, G.alloc (.cells #[.bool false, .bool t.n0, .bool t.s0, .slice sA t.l0.length sa, .bool t.n1, .bool t.s1, .slice sB t.l1.length sb, .slice F (pn + 1) f, .slice z H wc] 43) = W := ⟨_, rfl⟩
 rw [show G.alloc (.cells (List.toArray [.bool false, .bool t.n0, .bool t.s0, .slice sA t.l0.length sa, .bool t.n1, .bool t.s1, .slice sB t.l1.length sb, .slice F (pn + 1) f, .slice z H wc]) 43) = M from Kh] at I
 rw [Kh]
 rw [Kh] at Ke Kb
 clear Kh
 go_cut [12, 13] (fun s12 s13 wx => s12 = .bool true ∧ s13 = .int .i64 0 ∧ Below M.heap.size M wx)
 case first =>
  obtain ⟨⟨z0, z1, z2, z3, z4, z5, z6, z7, v⟩, _⟩ := I.out.all9
  first | go_region_with (first
   | (go_at_call 11; with_reducible refine (Ko.out _).mono ?_; rintro e w6 ⟨C, c, D, dd, rfl, v1, v2, B⟩; have Kc : Below M.heap.size M w6 := from_ ((Below.refl M.heap.size M).drew) B; obtain ⟨⟨y0, y1, y2, y3, y4, y5, y6, y7, y8⟩, _⟩ := (I.out.below Kc).all9)
   | (go_at_call 10; with_reducible refine (Kp.out _ (from_ Kb.out Kc) _ _ _ _ _ v1 v2).mono ?_; rintro e w7 ⟨rfl, Kz⟩; have KB := hid (from_ Kc Kz))) | fail
  all_goals
   clear y0 y1 y2 y3 y4 y5 y6 y7 y8 z0 z1 z2 z3 z4 z5 z6 z7 v v1 v2 B Kc Kz Ko Kp Kl HM I
   go_wp2_with fail
   go_meet
   exact ⟨rfl, rfl, KB.out⟩
 case rest =>
  obtain ⟨rfl, rfl, KA⟩ := hcut
  have KC := hid KA
  clear KA Ko Kp
  go_wp2
  rename World => W6
  go_loopw [14] (fun i wr => ∃ k : Nat, 1 ≤ k ∧ k ≤ H + 1 ∧ i = .int .i64 (k : Int) ∧ Below M.heap.size M wr) (fun i _ => H + 1 - (intOf i).toNat)
  case atStart => exact ⟨1, by omega, by omega, rfl, KC.out⟩
  case round =>
   obtain ⟨k, KM, KN, rfl, g⟩ := hrel
   have u := I.out.below g
   by_cases hlt : k < H
   · obtain ⟨j, rfl⟩ : ∃ j, k = j + 1 := ⟨k - 1, by omega⟩
     obtain ⟨b, o, x, y, rfl, c1, c0, KG⟩ := mk_at (HM.out _ (from_ Kb.out g)) (j := j) hlt
     have v := u.c 8 _ rfl
     have KJ : decide (x ≤ y) = false := decide_eq_false (by omega)
     have KK : ((j + 1 : Nat) : Int) - 1 = (j : Int) := by omega
     have i1 : (0 : Int) ≤ ((j + 1 : Nat) : Int) ∧ ((j + 1 : Nat) : Int) < (H : Int) := by omega
     have i2 : (0 : Int) ≤ (j : Int) ∧ (j : Int) < (H : Int) := by omega
     obtain ⟨KO, KP⟩ := i1
     obtain ⟨KQ, KR⟩ := i2
     have Ks := fun q => below_drewN' g q
     have KD := hid Ks
     clear Ks g u KG
     go_wp2
     first | go_quiet (fail) | fail
     go_wp2
     go_roundw
     case rel => exact ⟨j + 1 + 1, by omega, by omega, by go_num, KD.out _⟩
     case measure => simp [intOf]; omega
   · have v := u.c 8 _ rfl
     have z7 := u.c 7 _ rfl
     obtain ⟨HC, KH⟩ := hid2 (Kl.out _ (from_ Kb.out g)) (from_ Ke.out g)
     have t1 : (((pn + 1 : Nat) : Int) == (pn : Int) + 1) = true := beq_iff_eq.2 (by omega)
     clear u g HM Kl I
     go_wp2_with fail
     refine HC.out.mono ?_
     rintro e w8 ⟨rfl, B⟩
     have hb := from_ KH.out B
     go_wp2
     go_ret
     exact ⟨by first | rfl | trivial, hb⟩
def IsRowI (W : World) (v : Value) (A : Option Addr) (c n : Nat) (x : Nat → Int) : Prop := v = .slice A n c ∧ RowK 1 W A c n (fun j _ => .int .i64 (x j))
theorem lawLineRange {w : World} {v0 v1 v2 v3 : Value} {no st : Int} {d dx : Nat} {sz pk : Nat → Int} {es : List Ed} {ps : List Iv} {x : Ex} (hg : GrR w v0 V no st la Aa na ca EA ce sz d es) (hp : IsRowI w v1 PA pc pn pk) (hb : IsIvs w old v2 ps) (hx : ExQ w v3 x dx XA cx) :
  Calls Tryz.prog 3 #[v0, v1, v2, v3] w fun e w' => e = .returned (.bool true) ∧ Below w.heap.size w w' := by
 obtain ⟨rfl, D, N, O, E, J⟩ := hg
 obtain ⟨rfl, B⟩ := hp
 obtain ⟨P, Q, rfl, C⟩ := hb
 obtain ⟨rfl, F, K, G⟩ := hx
 obtain ⟨k, nm, n, l, p⟩ := x
 have H := C.small
 exact llr_walk (R := lkE (lkB pk pn ps sz) (dx + 1) (.mk k nm n l p)) (S := OfS V na pk pn ps sz dx (.mk k nm n l p)) (T := nodesL dx l ≤ 5000 ∧ ∀ p ∈ ps, p.l0.length ≤ 100 ∧ p.l1.length ≤ 100) B.len
  (fun W hW => lgreat_any (x := .mk k nm n l p) (E.below hW) D.len J (F.below hW) K B.len (C.below hW))
  (fun hT W hW => lof_x (x := .mk k nm n l p) (D.below hW) (E.below hW) (B.below hW) (C.below hW) (fun p hp => ⟨by have := (hT.2 p hp).1; omega, by have := (hT.2 p hp).2; omega⟩) (F.below hW) G hT.1)
  (fun hT hS ho => by
   have I : ∀ p ∈ ps, p.l0.length ≤ 6000 ∧ p.l1.length ≤ 6000 := fun p hp => ⟨by have := (hT.2 p hp).1; omega, by have := (hT.2 p hp).2; omega⟩
   obtain ⟨L, M⟩ := hS.ok G H I hT.1 ho
   exact ⟨L, M, hS.p.1⟩)
end Go.Proofs.YtdncgncijbnjpaaGreat
