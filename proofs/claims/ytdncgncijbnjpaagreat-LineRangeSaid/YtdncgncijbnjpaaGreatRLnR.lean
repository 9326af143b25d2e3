/- line.may: whether an expression may be in a graph; it says yes of one that may. Conditions: it may. -/
import Derived.LoopN
import Derived.Test.YtdncgncijbnjpaaGreatRBoxL
import Derived.Test.YtdncgncijbnjpaaGreatRLoS
set_option linter.unusedVariables false
set_option linter.unusedSimpArgs false
set_option maxRecDepth 100000
set_option maxHeartbeats 40000000
namespace Go.Proofs.YtdncgncijbnjpaaGreat
open Go.RowKit
variable {W : World} {a0 a1 a2 a3 a4 : Value} {d g : Nat}
def alone2 (x : Ex) : List Ed := [⟨0, 2, 6, 0, 3, [x, x], 0⟩, ⟨0, 2, 6, 0, 6, [x, x], 0⟩]
theorem alone2_outs (x : Ex) : outsL (alone2 x) 0 = alone2 x := rfl
theorem alone2_none (x : Ex) {key : Int} (h : key ≠ 0) : hasE (alone2 x) (alone2 x).length key = false := by
 have A : ¬ (0 : Int) = key := fun e => h e.symm
 have B : idxE (alone2 x) 2 key = [] := by
  unfold idxE
  rw [List.filter_eq_nil_iff]
  intro j hj
  rw [List.mem_range] at hj
  rcases j with _ | _ | j
  · simp [alone2, A]
  · simp [alone2, A]
  · omega
 show decide (0 < (idxE (alone2 x) 2 key).length) = false
 rw [B]
 rfl
theorem alone2_ok {V : Int} {na : Nat} {x : Ex} (hV : 0 ≤ V ∧ V ≤ 32) (hna : na ≤ 4) (hx : mayE V na d x = true) : OkG V na 3 0 1 d (alone2 x) := by
 have C : ∀ cmp : Int, cmp = 3 ∨ cmp = 6 → headD V na 6 0 cmp 2 = true := by
  intro cmp hc
  rcases hc with rfl | rfl <;> simp [headD, dmost, dargs, cmpD]
 have A : ∀ cmp : Int, cmp = 3 ∨ cmp = 6 → deedE V na d 6 0 cmp [x, x] = true := by
  intro cmp hc
  have D := C cmp hc
  simp [deedE, D, hx]
 refine ⟨hV, hna, by omega, by simp [alone2], by omega, by omega, by omega, fun e he => ?_, fun key hk => ?_⟩
 · simp only [alone2, List.mem_cons, List.not_mem_nil, or_false] at he
   rcases he with rfl | rfl
   · simp [edgeE, A 3 (.inl rfl)]
   · simp [edgeE, A 6 (.inr rfl)]
 · by_cases h0 : key = 0
   · subst h0
     refine ⟨by omega, ?_, ?_⟩
     · rw [alone2_outs]
       have B := alikeE_refl hx
       have E : alikeL (alikeE d) [x, x] [x, x] = true := by
        unfold alikeL
        rw [decide_eq_true rfl, Bool.true_and]
        refine all_lt.2 fun j hj => ?_
        rcases j with _ | _ | j
        · exact B
        · exact B
        · simp at hj
          omega
       show ((6 : Nat) == 6 && (6 : Nat) == 6 && (6 : Int) == oppE 3 && alikeL (alikeE d) [x, x] [x, x]) = true
       rw [E]
       rfl
     · show chainE (alone2 x) 0 2 0 = false
       unfold chainE skipE
       rw [alone2_outs]
       rfl
   · rw [alone2_none x h0] at hk
     cases hk
theorem BoxL.all5 (H : BoxL W g [a0, a1, a2, a3, a4]) : D3 W g a0 a1 a2 (W.cell? ⟨g, 3, none⟩ = some a3 ∧ W.cell? ⟨g, 4, none⟩ = some a4) := ⟨H.c 0 _ rfl, H.c 1 _ rfl, H.c 2 _ rfl, H.c 3 _ rfl, H.c 4 _ rfl⟩
theorem BoxL.all6 {a5 : Value} (H : BoxL W g [a0, a1, a2, a3, a4, a5]) : C6 W g a0 a1 a2 a3 a4 a5 := ⟨H.c 0 _ rfl, H.c 1 _ rfl, H.c 2 _ rfl, H.c 3 _ rfl, H.c 4 _ rfl, H.c 5 _ rfl⟩
theorem BoxL.keptR {W' : World} {vs : List Value} {row : Option Nat} (h : BoxL W g vs) (hg : W.grownBy W' row) (hr : row ≠ some g) : BoxL W' g vs := by
 have A := hg.block g h.lt (fun e => hr e.symm)
 exact ⟨fun j v e => (World.cell?_of_block (a := ⟨g, j, none⟩) A).trans (h.c j v e), fun j v e => (World.frozen?_of_block (a := ⟨g, j, none⟩) A).trans (h.f j v e), Nat.lt_of_lt_of_le h.lt hg.size⟩
theorem seven_newsG {a b c d e f g : Value} {t : TypeId} {h : Nat} (hh : h = W.heap.size) : ∀ j u, [a, b, c, d, e, f, g][j]? = some u → (W.alloc (.cells #[a, b, c, d, e, f, g] t)).cell? ⟨h, j, none⟩ = some u := by
 subst hh
 exact seven_news
theorem own_slice {w : World} {B n size : Nat} {e : TypeId} {v : Value} {xs : List Value} (h : w.ownsRow B e size v n xs) (h0 : 0 < n) : ∃ g cap, v = .slice (some ⟨g, 0, none⟩) n cap ∧ n ≤ cap ∧ cap ≤ maxLen := by
 rcases h.2 with ⟨_, e0⟩ | ⟨g, cap, cur, e1, _, _, h1, h2, _⟩
 · omega
 · exact ⟨g, cap, e1, h1, h2⟩
theorem grown_cell (W : World) (g i : Nat) (v : Value) : W.grownBy (W.setCell ⟨g, i, none⟩ v) (some g) :=
 ⟨rfl, rfl, rfl, by simp [World.setCell], fun k _ hk => Below.heap_setCell _ _ _ _ (fun e => hk (by rw [e]))⟩
theorem pair_at {w : World} {c : Nat} {A : Option Addr} {k n p : Int} {nm : ByteArray} {l : List Ex} (h : BoxL w g [.int .u8 k, .string nm, .int .i64 n, .slice A l.length c, .int .i64 p, .int .u8 k, .string nm, .int .i64 n, .slice A l.length c, .int .i64 p]) (he : ExsAt w d A c l) : ExsAt w (d + 1) (some ⟨g, 0, none⟩) 2 [.mk k nm n l p, .mk k nm n l p] := by
 refine ⟨fun _ => A, fun _ => c, ⟨by simp, by omega, fun _ => ⟨g, 0, rfl, h.lt, fun j hj i hi => ?_⟩⟩, fun j hj => ?_⟩
 · rcases j with _ | _ | j
   · rcases i with _ | _ | _ | _ | _ | i
     · exact h.c 0 _ rfl
     · exact h.c 1 _ rfl
     · exact h.c 2 _ rfl
     · exact h.c 3 _ rfl
     · exact h.c 4 _ rfl
     · omega
   · rcases i with _ | _ | _ | _ | _ | i
     · exact h.c 5 _ rfl
     · exact h.c 6 _ rfl
     · exact h.c 7 _ rfl
     · exact h.c 8 _ rfl
     · exact h.c 9 _ rfl
     · omega
   · simp at hj
     omega
 · rcases j with _ | _ | j
   · exact he
   · exact he
   · simp at hj
     omega
theorem edrow {w : World} {cap a b : Nat} {x : Ex} (h : ∀ j u, ([.int .i64 0, .int .i64 2, .int .u8 6, .int .i64 0, .int .u8 3, .slice (some ⟨a, 0, none⟩) 2 2, .int .i64 0] ++ [.int .i64 0, .int .i64 2, .int .u8 6, .int .i64 0, .int .u8 6, .slice (some ⟨b, 0, none⟩) 2 2, .int .i64 0])[j]? = some u → w.cell? ⟨g, j, none⟩ = some u) (hl : g < w.heap.size) (h2 : 2 ≤ cap) (hm : cap ≤ 9223372036854775807) (p1 : ExsAt w d (some ⟨a, 0, none⟩) 2 [x, x]) (p2 : ExsAt w d (some ⟨b, 0, none⟩) 2 [x, x]) :
  EdsAt w d (some ⟨g, 0, none⟩) cap (alone2 x) (fun j => if j = 0 then some ⟨a, 0, none⟩ else some ⟨b, 0, none⟩) (fun _ => 2) := by
 refine ⟨⟨h2, hm, fun _ => ⟨g, 0, rfl, hl, fun j hj i hi => ?_⟩⟩, fun j hj => ?_⟩
 · rcases j with _ | _ | j
   · rcases i with _ | _ | _ | _ | _ | _ | _ | i
     · exact h 0 _ rfl
     · exact h 1 _ rfl
     · exact h 2 _ rfl
     · exact h 3 _ rfl
     · exact h 4 _ rfl
     · exact h 5 _ rfl
     · exact h 6 _ rfl
     · omega
   · rcases i with _ | _ | _ | _ | _ | _ | _ | i
     · exact h 7 _ rfl
     · exact h 8 _ rfl
     · exact h 9 _ rfl
     · exact h 10 _ rfl
     · exact h 11 _ rfl
     · exact h 12 _ rfl
     · exact h 13 _ rfl
     · omega
   · simp [alone2] at hj
     omega
 · rcases j with _ | _ | j
   · exact p1
   · exact p2
   · simp [alone2] at hj
     omega
end Go.Proofs.YtdncgncijbnjpaaGreat
