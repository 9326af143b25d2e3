/- line.may: whether an expression may be in a graph; it says yes of one that may. Conditions: it may. -/
import Derived.LoopN
import Derived.Test.YtcheajjjdbllfaaGreatNBoxL
import Derived.Test.YtcheajjjdbllfaaGreatNLnI
set_option linter.unusedVariables false
set_option linter.unusedSimpArgs false
set_option maxRecDepth 100000
set_option maxHeartbeats 40000000
namespace Go.Proofs.YtcheajjjdbllfaaGreat
open Go.Lib (hid)
open Go.RowKit
variable {A : Option Addr} {V : Int} {W w : World} {a0 a1 a2 a3 a4 : Value} {c d g na : Nat}
def alone2 (x : Ex) : List Ed := [⟨0, 2, 6, 0, 3, [x, x], 0⟩, ⟨0, 2, 6, 0, 6, [x, x], 0⟩]
theorem alone2_outs (x : Ex) : outsL (alone2 x) 0 = alone2 x := rfl
theorem alone2_none (x : Ex) {key : Int} (h : key ≠ 0) : hasE (alone2 x) (alone2 x).length key = false := by
 have h' : ¬ (0 : Int) = key := fun e => h e.symm
 have e1 : idxE (alone2 x) 2 key = [] := by
  unfold idxE
  rw [List.filter_eq_nil_iff]
  intro j hj
  rw [List.mem_range] at hj
  rcases j with _ | _ | j
  · simp [alone2, h']
  · simp [alone2, h']
  · omega
 show decide (0 < (idxE (alone2 x) 2 key).length) = false
 rw [e1]
 rfl
theorem alone2_ok {x : Ex} (hV : 0 ≤ V ∧ V ≤ 32) (hna : na ≤ 4) (hx : mayE V na d x = true) : OkG V na 3 0 1 d (alone2 x) := by
 have hh : ∀ cmp : Int, cmp = 3 ∨ cmp = 6 → headD V na 6 0 cmp 2 = true := by
  intro cmp hc
  rcases hc with rfl | rfl <;> simp [headD, dmost, dargs, cmpD]
 have hd : ∀ cmp : Int, cmp = 3 ∨ cmp = 6 → deedE V na d 6 0 cmp [x, x] = true := by
  intro cmp hc
  have h1 := hh cmp hc
  simp [deedE, h1, hx]
 refine ⟨hV, hna, by omega, by simp [alone2], by omega, by omega, by omega, fun e he => ?_, fun key hk => ?_⟩
 · simp only [alone2, List.mem_cons, List.not_mem_nil, or_false] at he
   rcases he with rfl | rfl
   · simp [edgeE, hd 3 (.inl rfl)]
   · simp [edgeE, hd 6 (.inr rfl)]
 · by_cases h0 : key = 0
   · subst h0
     refine ⟨by omega, ?_, ?_⟩
     · rw [alone2_outs]
       have ha := alikeE_refl hx
       have hl : alikeL (alikeE d) [x, x] [x, x] = true := by
        unfold alikeL
        rw [decide_eq_true rfl, Bool.true_and]
        refine all_lt.2 fun j hj => ?_
        rcases j with _ | _ | j
        · exact ha
        · exact ha
        · simp at hj
          omega
       show ((6 : Nat) == 6 && (6 : Nat) == 6 && (6 : Int) == oppE 3 && alikeL (alikeE d) [x, x] [x, x]) = true
       rw [hl]
       rfl
     · show chainE (alone2 x) 0 2 0 = false
       unfold chainE skipE
       rw [alone2_outs]
       rfl
   · rw [alone2_none x h0] at hk
     cases hk
theorem BoxL.all5 (H : BoxL W g [a0, a1, a2, a3, a4]) : D3 W g a0 a1 a2 (W.cell? ⟨g, 3, none⟩ = some a3 ∧ W.cell? ⟨g, 4, none⟩ = some a4) := ⟨H.c 0 _ rfl, H.c 1 _ rfl, H.c 2 _ rfl, H.c 3 _ rfl, H.c 4 _ rfl⟩
theorem BoxL.all6 {a5 : Value} (H : BoxL W g [a0, a1, a2, a3, a4, a5]) : C6 W g a0 a1 a2 a3 a4 a5 := ⟨H.c 0 _ rfl, H.c 1 _ rfl, H.c 2 _ rfl, H.c 3 _ rfl, H.c 4 _ rfl, H.c 5 _ rfl⟩
theorem BoxL.keptR {W' : World} {vs : List Value} {row : Option Nat} (h : BoxL W g vs) (hg : W.grownBy W' row) (hr : row ≠ some g) : BoxL W' g vs := by
 have hb := hg.block g h.lt (fun e => hr e.symm)
 exact ⟨fun j v e => (World.cell?_of_block (a := ⟨g, j, none⟩) hb).trans (h.c j v e), fun j v e => (World.frozen?_of_block (a := ⟨g, j, none⟩) hb).trans (h.f j v e), Nat.lt_of_lt_of_le h.lt hg.size⟩
theorem seven_newsG {a b c d e f g : Value} {t : TypeId} {h : Nat} (hh : h = W.heap.size) : ∀ j u, [a, b, c, d, e, f, g][j]? = some u → (W.alloc (.cells #[a, b, c, d, e, f, g] t)).cell? ⟨h, j, none⟩ = some u := by
 subst hh
 exact seven_news
theorem own_slice {B n size : Nat} {e : TypeId} {v : Value} {xs : List Value} (h : w.ownsRow B e size v n xs) (h0 : 0 < n) : ∃ g cap, v = .slice (some ⟨g, 0, none⟩) n cap ∧ n ≤ cap ∧ cap ≤ maxLen := by
 rcases h.2 with ⟨_, e0⟩ | ⟨g, cap, cur, e1, _, _, h1, h2, _⟩
 · omega
 · exact ⟨g, cap, e1, h1, h2⟩
theorem grown_cell (W : World) (g i : Nat) (v : Value) : W.grownBy (W.setCell ⟨g, i, none⟩ v) (some g) :=
 ⟨rfl, rfl, rfl, by simp [World.setCell], fun k _ hk => Below.heap_setCell _ _ _ _ (fun e => hk (by rw [e]))⟩
theorem pair_at {k n p : Int} {nm : ByteArray} {l : List Ex} (h : BoxL w g [.int .u8 k, .string nm, .int .i64 n, .slice A l.length c, .int .i64 p, .int .u8 k, .string nm, .int .i64 n, .slice A l.length c, .int .i64 p]) (he : ExsAt w d A c l) : ExsAt w (d + 1) (some ⟨g, 0, none⟩) 2 [.mk k nm n l p, .mk k nm n l p] := by
 refine ⟨fun _ => A, fun _ => c, ⟨by simp, by omega, fun _ => ⟨g, 0, rfl, h.lt, fun j hj i hi => ?_⟩⟩, fun j hj => ?_⟩
 · rcases j with _ | _ | j
   · rcases i with _ | _ | _ | _ | _ | i
     · exact h.c 0 _ rfl
     · exact h.c 1 _ rfl
     · exact h.c 2 _ rfl
     · exact h.c 3 _ rfl
     · exact h.c 4 _ rfl
     · omega
   · rcases i with _ | _ | _ | _ | _ | i
     · exact h.c 5 _ rfl
     · exact h.c 6 _ rfl
     · exact h.c 7 _ rfl
     · exact h.c 8 _ rfl
     · exact h.c 9 _ rfl
     · omega
   · simp at hj
     omega
 · rcases j with _ | _ | j
   · exact he
   · exact he
   · simp at hj
     omega
theorem edrow {cap a b : Nat} {x : Ex} (h : ∀ j u, ([.int .i64 0, .int .i64 2, .int .u8 6, .int .i64 0, .int .u8 3, .slice (some ⟨a, 0, none⟩) 2 2, .int .i64 0] ++ [.int .i64 0, .int .i64 2, .int .u8 6, .int .i64 0, .int .u8 6, .slice (some ⟨b, 0, none⟩) 2 2, .int .i64 0])[j]? = some u → w.cell? ⟨g, j, none⟩ = some u) (hl : g < w.heap.size) (h2 : 2 ≤ cap) (hm : cap ≤ 9223372036854775807) (p1 : ExsAt w d (some ⟨a, 0, none⟩) 2 [x, x]) (p2 : ExsAt w d (some ⟨b, 0, none⟩) 2 [x, x]) :
  EdsAt w d (some ⟨g, 0, none⟩) cap (alone2 x) (fun j => if j = 0 then some ⟨a, 0, none⟩ else some ⟨b, 0, none⟩) (fun _ => 2) := by
 refine ⟨⟨h2, hm, fun _ => ⟨g, 0, rfl, hl, fun j hj i hi => ?_⟩⟩, fun j hj => ?_⟩
 · rcases j with _ | _ | j
   · rcases i with _ | _ | _ | _ | _ | _ | _ | i
     · exact h 0 _ rfl
     · exact h 1 _ rfl
     · exact h 2 _ rfl
     · exact h 3 _ rfl
     · exact h 4 _ rfl
     · exact h 5 _ rfl
     · exact h 6 _ rfl
     · omega
   · rcases i with _ | _ | _ | _ | _ | _ | _ | i
     · exact h 7 _ rfl
     · exact h 8 _ rfl
     · exact h 9 _ rfl
     · exact h 10 _ rfl
     · exact h 11 _ rfl
     · exact h 12 _ rfl
     · exact h 13 _ rfl
     · omega
   · simp [alone2] at hj
     omega
 · rcases j with _ | _ | j
   · exact p1
   · exact p2
   · simp [alone2] at hj
     omega
theorem lmay_ok {ca : Nat} {Aa : Option Addr} {x : Ex} {g2 g3 g4 g5 : Value} (hV : 0 ≤ V ∧ V ≤ 32) (hna : na ≤ 4) (hx : mayE V na (d + 1) x = true) (he : ExsAt w d A c x.l)
  (hA : ∀ W, Below w.heap.size w W → Calls Tryz.prog 26 #[.slice Aa na ca, .func (.func 27) #[] #[]] W fun e w' => e = .returned (.bool false) ∧ Below W.heap.size W w') :
  Calls Tryz.prog 17 #[.agg #[.int .i64 V, .slice Aa na ca, g2, g3, g4, g5], exV x A c] w fun e w' => e = .returned (.bool true) ∧ Below w.heap.size w w' := by
 obtain ⟨k, nm, n, l, p⟩ := x
 obtain ⟨i0, hi, hz0, hz1, hz2⟩ := info_parts infoEd
 have hok := alone2_ok hV hna hx
 have hlen := he.len
 show Calls Tryz.prog 17 #[.agg #[.int .i64 V, .slice Aa na ca, g2, g3, g4, g5], .agg #[.int .u8 k, .string nm, .int .i64 n, .slice A l.length c, .int .i64 p]] w _
 obtain ⟨HOK, HE, HA⟩ := hid3 hok he hA
 obtain ⟨W1, hW1⟩ : ∃ W, ((((w.alloc (.cells #[.int .i64 V, .slice Aa na ca, g2, g3, g4, g5] 45)).alloc (.cells #[.int .u8 k, .string nm, .int .i64 n, .slice A l.length c, .int .i64 p] 50)).alloc (.cells #[.int .i64 V, .slice Aa na ca, .int .i64 3, .int .i64 0, .int .i64 1, .slice none 0 0] 45)).alloc (.cells #[.int .u8 3, .int .u8 6] 5)) = W := ⟨_, rfl⟩
 have hB0 : Below w.heap.size w W1 := by
  rw [← hW1]
  exact ((((Below.refl _ w).alloc (Nat.le_refl _) _).alloc (by simp) _).alloc (by first | (simp; done) | (simp; omega)) _).alloc (by first | (simp; done) | (simp; omega)) _
 have HX : Hid (BoxL W1 (w.heap.size + 1) [.int .u8 k, .string nm, .int .i64 n, .slice A l.length c, .int .i64 p]) := hid (by
  rw [← hW1]
  have h := ((BoxL.new (w.alloc (.cells #[.int .i64 V, .slice Aa na ca, g2, g3, g4, g5] 45)) [.int .u8 k, .string nm, .int .i64 n, .slice A l.length c, .int .i64 p] 50).alloc (.cells #[.int .i64 V, .slice Aa na ca, .int .i64 3, .int .i64 0, .int .i64 1, .slice none 0 0] 45)).alloc (.cells #[.int .u8 3, .int .u8 6] 5)
  rw [show (w.alloc (.cells #[.int .i64 V, .slice Aa na ca, g2, g3, g4, g5] 45)).heap.size = w.heap.size + 1 by simp] at h
  exact h)
 have HG : Hid (BoxL W1 (w.heap.size + 2) [.int .i64 V, .slice Aa na ca, .int .i64 3, .int .i64 0, .int .i64 1, .slice none 0 0]) := hid (by
  rw [← hW1]
  have h := (BoxL.new ((w.alloc (.cells #[.int .i64 V, .slice Aa na ca, g2, g3, g4, g5] 45)).alloc (.cells #[.int .u8 k, .string nm, .int .i64 n, .slice A l.length c, .int .i64 p] 50)) [.int .i64 V, .slice Aa na ca, .int .i64 3, .int .i64 0, .int .i64 1, .slice none 0 0] 45).alloc (.cells #[.int .u8 3, .int .u8 6] 5)
  rw [show ((w.alloc (.cells #[.int .i64 V, .slice Aa na ca, g2, g3, g4, g5] 45)).alloc (.cells #[.int .u8 k, .string nm, .int .i64 n, .slice A l.length c, .int .i64 p] 50)).heap.size = w.heap.size + 2 by simp] at h
  exact h)
 have HK : Hid (BoxL W1 (w.heap.size + 3) [.int .u8 3, .int .u8 6]) := hid (by
  rw [← hW1]
  have h := BoxL.new (((w.alloc (.cells #[.int .i64 V, .slice Aa na ca, g2, g3, g4, g5] 45)).alloc (.cells #[.int .u8 k, .string nm, .int .i64 n, .slice A l.length c, .int .i64 p] 50)).alloc (.cells #[.int .i64 V, .slice Aa na ca, .int .i64 3, .int .i64 0, .int .i64 1, .slice none 0 0] 45)) [.int .u8 3, .int .u8 6] 5
  rw [show (((w.alloc (.cells #[.int .i64 V, .slice Aa na ca, g2, g3, g4, g5] 45)).alloc (.cells #[.int .u8 k, .string nm, .int .i64 n, .slice A l.length c, .int .i64 p] 50)).alloc (.cells #[.int .i64 V, .slice Aa na ca, .int .i64 3, .int .i64 0, .int .i64 1, .slice none 0 0] 45)).heap.size = w.heap.size + 3 by simp] at h
  exact h)
 have hsz : w.heap.size + 4 ≤ W1.heap.size := by rw [← hW1]; simp
 obtain ⟨HZ, HB⟩ := hid2 hsz hB0
 clear hok he hA hx hV hna hB0 hsz
 go_enter Tryz.func17, Tryz.ntmps17
 go_wp2
 obtain ⟨x0, x1, x2, x3, x4⟩ := HX.out.all5
 have k0 := HK.out.c 0 _ rfl
 have s5 := HG.out.c 5 _ rfl
 clear hW1
 have HP := hid (BoxL.new W1 [.int .u8 k, .string nm, .int .i64 n, .slice A l.length c, .int .i64 p, .int .u8 k, .string nm, .int .i64 n, .slice A l.length c, .int .i64 p] 50)
 refine wp_loop_rounds 3 ?_
 rw [rounds_succ]
 go_wp2_with (at_builtin; go_loud (refine wpList_appF _ rfl _ _ 43 rfl w.heap.size 60 i0 (.agg #[.int .i64 0, .int .i64 0, .int .u8 0, .int .i64 0, .int .u8 0, .slice none 0 0, .int .i64 0]) 7 72 Tryz.underlying43 hi hz0 hz1 hz2 rfl (by omega) (by omega) (.slice none 0 0) 0 [] rfl (World.ownsRow_nil _ _ _ _) _ [.int .i64 0, .int .i64 2, .int .u8 6, .int .i64 0, .int .u8 3, .slice (some ⟨W1.heap.size, 0, none⟩) 2 2, .int .i64 0] rfl rfl (seven_newsG (by simp)) (by simp [Value.oneCell']) (by omega) (by have := HB.out.size; simp; omega) ?_); intro v1 w5 hown1 hgrow1 hfresh1; obtain ⟨g1, cap1, rfl, hc1, hm1⟩ := own_slice hown1 (by omega); have HG5 := hid ((((HG.out).alloc (.cells #[.int .u8 k, .string nm, .int .i64 n, .slice A l.length c, .int .i64 p, .int .u8 k, .string nm, .int .i64 n, .slice A l.length c, .int .i64 p] 50)).alloc (.cells #[.int .i64 0, .int .i64 2, .int .u8 6, .int .i64 0, .int .u8 3, .slice (some ⟨W1.heap.size, 0, none⟩) 2 2, .int .i64 0] 60)).keptR hgrow1 (by simp [Value.ownBlock])); have y5 := HG5.out.c 5 _ rfl; have yf := HG5.out.f 5 _ rfl)
 have hg1 : W1.heap.size + 2 ≤ g1 := by
  rcases hfresh1 with e | e
  · simp [Value.ownBlock] at e
  · have := e g1 rfl
    simp at this
    omega
 have hgA : (Value.slice none 0 0).ownBlock = none := rfl
 obtain ⟨HX5, HK5, HP5, HB5⟩ := hid4 ((((HX.out).alloc (.cells #[.int .u8 k, .string nm, .int .i64 n, .slice A l.length c, .int .i64 p, .int .u8 k, .string nm, .int .i64 n, .slice A l.length c, .int .i64 p] 50)).alloc (.cells #[.int .i64 0, .int .i64 2, .int .u8 6, .int .i64 0, .int .u8 3, .slice (some ⟨W1.heap.size, 0, none⟩) 2 2, .int .i64 0] 60)).keptR hgrow1 (by simp [Value.ownBlock])) ((((HK.out).alloc (.cells #[.int .u8 k, .string nm, .int .i64 n, .slice A l.length c, .int .i64 p, .int .u8 k, .string nm, .int .i64 n, .slice A l.length c, .int .i64 p] 50)).alloc (.cells #[.int .i64 0, .int .i64 2, .int .u8 6, .int .i64 0, .int .u8 3, .slice (some ⟨W1.heap.size, 0, none⟩) 2 2, .int .i64 0] 60)).keptR hgrow1 (by simp [Value.ownBlock])) ((HP.out.alloc (.cells #[.int .i64 0, .int .i64 2, .int .u8 6, .int .i64 0, .int .u8 3, .slice (some ⟨W1.heap.size, 0, none⟩) 2 2, .int .i64 0] 60)).keptR hgrow1 (by simp [Value.ownBlock])) (((HB.out.alloc HB.out.size (.cells #[.int .u8 k, .string nm, .int .i64 n, .slice A l.length c, .int .i64 p, .int .u8 k, .string nm, .int .i64 n, .slice A l.length c, .int .i64 p] 50)).alloc (by have := HB.out.size; simp; omega) (.cells #[.int .i64 0, .int .i64 2, .int .u8 6, .int .i64 0, .int .u8 3, .slice (some ⟨W1.heap.size, 0, none⟩) 2 2, .int .i64 0] 60)).grown hgrow1 (by have := HB.out.size; simp; omega) (fun k e => by simp [Value.ownBlock] at e))
 have hs5 := hgrow1.size
 simp only [World.size_alloc] at hs5
 obtain ⟨W6, hW6⟩ : ∃ W, w5.setCell ⟨w.heap.size + 2, 5, none⟩ (.slice (some ⟨g1, 0, none⟩) 1 cap1) = W := ⟨_, rfl⟩
 have hg6 : w5.grownBy W6 (some (w.heap.size + 2)) := by rw [← hW6]; exact grown_cell _ _ _ _
 have HG6 : Hid (BoxL W6 (w.heap.size + 2) [.int .i64 V, .slice Aa na ca, .int .i64 3, .int .i64 0, .int .i64 1, .slice (some ⟨g1, 0, none⟩) 1 cap1]) := hid (by rw [← hW6]; exact HG5.out.set 5 _ rfl)
 obtain ⟨HX6, HK6, HP6, HB6, HO6, HS6⟩ := hid6 (HX5.out.keptR hg6 (by simp)) (HK5.out.keptR hg6 (by simp)) (HP5.out.keptR hg6 (by have := HZ.out; simp; omega)) (HB5.out.grown hg6 HB5.out.size (fun k e => by injection e; omega)) (hown1.kept hg6 (.inr (by have := HZ.out; simp [Value.ownBlock]; omega))) (Nat.le_trans hs5 hg6.size)
 have Hg1 := hid hg1
 clear x0 x1 x2 x3 x4 k0 s5 y5 yf hown1 hgrow1 hfresh1 hg1 hgA hs5 HG5 HX5 HK5 HP5 HB5 hg6 HG HX HK HP HB
 obtain ⟨x0, x1, x2, x3, x4⟩ := HX6.out.all5
 have k1 := HK6.out.c 1 _ rfl
 have s5 := HG6.out.c 5 _ rfl
 have HP' := hid (BoxL.new W6 [.int .u8 k, .string nm, .int .i64 n, .slice A l.length c, .int .i64 p, .int .u8 k, .string nm, .int .i64 n, .slice A l.length c, .int .i64 p] 50)
 go_wp2
 rw [rounds_succ]
 go_wp2_with (at_builtin; go_loud (refine wpList_appF _ rfl _ _ 43 rfl w.heap.size 60 i0 (.agg #[.int .i64 0, .int .i64 0, .int .u8 0, .int .i64 0, .int .u8 0, .slice none 0 0, .int .i64 0]) 7 72 Tryz.underlying43 hi hz0 hz1 hz2 rfl (by omega) (by omega) (.slice (some ⟨g1, 0, none⟩) 1 cap1) 1 ([] ++ [.int .i64 0, .int .i64 2, .int .u8 6, .int .i64 0, .int .u8 3, .slice (some ⟨W1.heap.size, 0, none⟩) 2 2, .int .i64 0]) rfl ((HO6.out.alloc (.cells #[.int .u8 k, .string nm, .int .i64 n, .slice A l.length c, .int .i64 p, .int .u8 k, .string nm, .int .i64 n, .slice A l.length c, .int .i64 p] 50)).alloc (.cells #[.int .i64 0, .int .i64 2, .int .u8 6, .int .i64 0, .int .u8 6, .slice (some ⟨W6.heap.size, 0, none⟩) 2 2, .int .i64 0] 60)) _ [.int .i64 0, .int .i64 2, .int .u8 6, .int .i64 0, .int .u8 6, .slice (some ⟨W6.heap.size, 0, none⟩) 2 2, .int .i64 0] rfl rfl (seven_newsG (by simp)) (by simp [Value.oneCell']) (by omega) (by have := HB6.out.size; simp; omega) ?_); intro v2 w7 hown2 hgrow2 hfresh2; obtain ⟨gB, cap2, rfl, hc2, hm2⟩ := own_slice hown2 (by omega); have HG7 := hid ((((HG6.out).alloc (.cells #[.int .u8 k, .string nm, .int .i64 n, .slice A l.length c, .int .i64 p, .int .u8 k, .string nm, .int .i64 n, .slice A l.length c, .int .i64 p] 50)).alloc (.cells #[.int .i64 0, .int .i64 2, .int .u8 6, .int .i64 0, .int .u8 6, .slice (some ⟨W6.heap.size, 0, none⟩) 2 2, .int .i64 0] 60)).keptR hgrow2 (by have := HZ.out; have := Hg1.out; simp [Value.ownBlock]; omega)); have y5 := HG7.out.c 5 _ rfl; have yf := HG7.out.f 5 _ rfl)
 have hgB : W1.heap.size + 2 ≤ gB := by
  rcases hfresh2 with e | e
  · have := Hg1.out
    simp [Value.ownBlock] at e
    omega
  · have h1 := e gB rfl
    have h2 := HS6.out
    simp at h1
    omega
 have HP7 := hid (((HP6.out.alloc (.cells #[.int .u8 k, .string nm, .int .i64 n, .slice A l.length c, .int .i64 p, .int .u8 k, .string nm, .int .i64 n, .slice A l.length c, .int .i64 p] 50)).alloc (.cells #[.int .i64 0, .int .i64 2, .int .u8 6, .int .i64 0, .int .u8 6, .slice (some ⟨W6.heap.size, 0, none⟩) 2 2, .int .i64 0] 60)).keptR hgrow2 (by have := Hg1.out; simp [Value.ownBlock]; omega))
 have HQ7 := hid ((HP'.out.alloc (.cells #[.int .i64 0, .int .i64 2, .int .u8 6, .int .i64 0, .int .u8 6, .slice (some ⟨W6.heap.size, 0, none⟩) 2 2, .int .i64 0] 60)).keptR hgrow2 (by
  have h1 := (HO6.out.lt g1 rfl).2
  simp [Value.ownBlock]
  omega))
 have HB7 := hid (((HB6.out.alloc HB6.out.size (.cells #[.int .u8 k, .string nm, .int .i64 n, .slice A l.length c, .int .i64 p, .int .u8 k, .string nm, .int .i64 n, .slice A l.length c, .int .i64 p] 50)).alloc (by have := HB6.out.size; simp; omega) (.cells #[.int .i64 0, .int .i64 2, .int .u8 6, .int .i64 0, .int .u8 6, .slice (some ⟨W6.heap.size, 0, none⟩) 2 2, .int .i64 0] 60)).grown hgrow2 (by have := HB6.out.size; simp; omega) (fun k e => by have := Hg1.out; have := HZ.out; simp [Value.ownBlock] at e; omega))
 obtain ⟨W8, hW8⟩ : ∃ W, w7.setCell ⟨w.heap.size + 2, 5, none⟩ (.slice (some ⟨gB, 0, none⟩) 2 cap2) = W := ⟨_, rfl⟩
 have hg8 : w7.grownBy W8 (some (w.heap.size + 2)) := by rw [← hW8]; exact grown_cell _ _ _ _
 have HG8 : Hid (BoxL W8 (w.heap.size + 2) [.int .i64 V, .slice Aa na ca, .int .i64 3, .int .i64 0, .int .i64 1, .slice (some ⟨gB, 0, none⟩) 2 cap2]) := hid (by rw [← hW8]; exact HG7.out.set 5 _ rfl)
 obtain ⟨HP8, HQ8, HB8, HO8⟩ := hid4 (HP7.out.keptR hg8 (by have := HZ.out; simp; omega)) (HQ7.out.keptR hg8 (by have := HZ.out; have := HS6.out; simp; omega)) (HB7.out.grown hg8 HB7.out.size (fun k e => by injection e; omega)) (hown2.kept hg8 (.inr (by have := HZ.out; simp [Value.ownBlock]; omega)))
 have HED : Hid (EdsAt W8 (d + 1) (some ⟨gB, 0, none⟩) cap2 (alone2 (.mk k nm n l p)) _ _) := hid (edrow (a := W1.heap.size) (b := W6.heap.size) (fun j u hj => by have h1 := HO8.out.cells (g := gB) rfl j u hj; rw [Addr.add_lit, Nat.zero_add] at h1; exact h1) (HO8.out.lt gB rfl).2 hc2 (by simp only [maxLen] at hm2; omega) (pair_at HP8.out (HE.out.below HB8.out)) (pair_at HQ8.out (HE.out.below HB8.out)))
 have HCK : Hid (Calls Tryz.prog 14 #[.agg #[.int .i64 V, .slice Aa na ca, .int .i64 3, .int .i64 0, .int .i64 1, .slice (some ⟨gB, 0, none⟩) 2 cap2]] W8 fun r w' => r = .returned (.int .i64 0) ∧ Below W8.heap.size W8 w') := hid (by
  have h := fcheck_good (Aa := Aa) (ca := ca) HOK.out HED.out (fun W hW => HA.out W (from_ HB8.out hW))
  exact h)
 obtain ⟨t0, t1, t2, t3, t4, t5⟩ := HG8.out.all6
 clear x0 x1 x2 x3 x4 k1 s5 y5 yf hown2 hgrow2 hfresh2 hgB hg8 HG7 HP7 HQ7 HB7 HO6 HG6 HX6 HK6 HP6 HB6 HP' HO8 HED HP8 HQ8
 go_wp2
 rw [rounds_succ]
 go_wp2_with fail
 refine HCK.out.mono ?_
 rintro e w9 ⟨rfl, hc⟩
 have hb := from_ HB8.out hc
 clear hW6 hW8 t0 t1 t2 t3 t4 t5
 go_wp2
 go_ret
 exact ⟨rfl, hb⟩
end Go.Proofs.YtcheajjjdbllfaaGreat
