/- slices.EqualFunc at expressions, flow.alike. No conditions. -/
import Derived.Deep.DeepCutAuto
import Derived.Deep.CutBlock
import Derived.Test.YtdncgncijbnjpaaGreatRWhV
import Derived.Test.YtdncgncijbnjpaaGreatRWhC
set_option linter.unusedVariables false
set_option linter.unusedSimpArgs false
set_option maxRecDepth 100000
set_option maxHeartbeats 40000000
namespace Go.Proofs.YtdncgncijbnjpaaGreat
open Go.Lib (hid)
open Go.RowKit
inductive Ex where
 | mk (k : Int) (nm : ByteArray) (n : Int) (l : List Ex) (p : Int)
variable {A Aa B : Option Addr} {F L bf bg c ca d j na : Nat} {R : Bool} {V : Int} {g2 g3 g4 g5 : Value}
def Ex.k : Ex → Int | .mk k _ _ _ _ => k
def Ex.nm : Ex → ByteArray | .mk _ s _ _ _ => s
def Ex.n : Ex → Int | .mk _ _ n _ _ => n
def Ex.l : Ex → List Ex | .mk _ _ _ l _ => l
def Ex.p : Ex → Int | .mk _ _ _ _ p => p
def exC (l : List Ex) (AA : Nat → Option Addr) (CC : Nat → Nat) (j i : Nat) : Value :=
 match l[j]? with
 | some e => if i = 0 then .int .u8 e.k else if i = 1 then .string e.nm else if i = 2 then .int .i64 e.n else if i = 3 then .slice (AA j) e.l.length (CC j) else .int .i64 e.p
 | none => undef
def ExsAt (w : World) : Nat → Option Addr → Nat → List Ex → Prop
 | 0, _, c, l => l = [] ∧ c ≤ 9223372036854775807
 | d + 1, A, c, l => ∃ AA CC, RowK 5 w A c l.length (exC l AA CC) ∧ ∀ j (hj : j < l.length), ExsAt w d (AA j) (CC j) l[j].l
theorem ExsAt.below {w w' : World} (hb : Below w.heap.size w w') : ∀ {d : Nat} {A : Option Addr} {c : Nat} {l : List Ex}, ExsAt w d A c l → ExsAt w' d A c l
 | 0, _, _, _, h => h
 | _ + 1, _, _, _, ⟨AA, CC, h, g⟩ => ⟨AA, CC, h.below hb, fun j hj => (g j hj).below hb⟩
theorem ExsAt.up {w : World} : ∀ {d : Nat} {A : Option Addr} {c : Nat} {l : List Ex}, ExsAt w d A c l → ExsAt w (d + 1) A c l
 | 0, _, _, _, ⟨e, h⟩ => by
   subst e
   exact ⟨fun _ => none, fun _ => 0, ⟨Nat.zero_le _, h, fun h => absurd h (by simp)⟩, fun j hj => absurd hj (by simp)⟩
 | _ + 1, _, _, _, ⟨AA, CC, h, g⟩ => ⟨AA, CC, h, fun j hj => (g j hj).up⟩
theorem ExsAt.len {w : World} {l : List Ex} (h : ExsAt w d A c l) : l.length ≤ c ∧ c ≤ 9223372036854775807 := by
 obtain ⟨_, _, h, _⟩ := h.up
 exact ⟨h.cap, h.max⟩
def exV (e : Ex) (A : Option Addr) (c : Nat) : Value := .agg #[.int .u8 e.k, .string e.nm, .int .i64 e.n, .slice A e.l.length c, .int .i64 e.p]
theorem exC_at {l : List Ex} {AA : Nat → Option Addr} {CC : Nat → Nat} (hj : j < l.length) : Value.agg #[exC l AA CC j 0, exC l AA CC j 1, exC l AA CC j 2, exC l AA CC j 3, exC l AA CC j 4] = exV l[j] (AA j) (CC j) := by
 simp [exC, exV, List.getElem?_eq_getElem hj]
theorem fbelow_any {w : World} (n m : Int) : Calls Tryz.prog 66 #[.int .i64 n, .int .i64 m] w fun e w' => e = .returned (.bool (decide (0 ≤ n) && decide (n < m))) ∧ w = w' := by
 by_cases h : 0 ≤ n
 · rw [decide_eq_true h, Bool.true_and]
   go_enter Tryz.func66, Tryz.ntmps66
   go_wp2
   go_ret
   exact ⟨rfl, rfl⟩
 · rw [decide_eq_false h, Bool.false_and]
   go_enter Tryz.func66, Tryz.ntmps66
   go_wp2
   go_ret
   exact ⟨rfl, rfl⟩
def argsE (k : Int) : Int := if k = 1 ∨ k = 2 then 0 else if k = 3 ∨ k = 4 then 1 else 2
def rightE (V na k n : Int) : Bool := if k = 1 then decide (0 ≤ n) else if k = 2 then decide (0 ≤ n) && decide (n < V) else if k = 3 then decide (0 ≤ n) && decide (n < na) else n == 0
def headE (V na k n len : Int) : Bool := decide (1 ≤ k) && decide (k ≤ 11) && rightE V na k n && decide (len = argsE k)
theorem fmay1 {w : World} {k n p : Int} {nm : ByteArray} (hg : Box6 w bg (.int .i64 V) (.slice Aa na ca) g2 g3 g4 g5)
  (hC : ∀ W, Below w.heap.size w W → Calls Tryz.prog 90 #[.slice A L c, .func (.func 165) #[] #[.pointer (some ⟨bf, 0, none⟩)]] W fun e w' => e = .returned (.bool R) ∧ Below W.heap.size W w') :
  Calls Tryz.prog 164 #[.agg #[.int .u8 k, .string nm, .int .i64 n, .slice A L c, .int .i64 p], .pointer (some ⟨bg, 0, none⟩), .pointer (some ⟨bf, 0, none⟩)] w fun e w' =>
   e = .returned (.bool (headE V na k n L && !R)) ∧ Below w.heap.size w w' := by
 have F : Below w.heap.size w (w.alloc (.cells #[.int .u8 k, .string nm, .int .i64 n, .slice A L c, .int .i64 p] 29)) := (Below.refl _ _).alloc (Nat.le_refl _) _
 have M : (w.alloc (.cells #[.int .u8 k, .string nm, .int .i64 n, .slice A L c, .int .i64 p] 29)).cell? ⟨w.heap.size, 0, none⟩ = some (.int .u8 k) := cell_newest rfl rfl
 have S : (w.alloc (.cells #[.int .u8 k, .string nm, .int .i64 n, .slice A L c, .int .i64 p] 29)).cell? ⟨w.heap.size, 2, none⟩ = some (.int .i64 n) := cell_newest rfl rfl
 have N : (w.alloc (.cells #[.int .u8 k, .string nm, .int .i64 n, .slice A L c, .int .i64 p] 29)).cell? ⟨w.heap.size, 3, none⟩ = some (.slice A L c) := cell_newest rfl rfl
 have T := keepC F hg.c0
 have U := keepC F hg.c1
 obtain ⟨P, Z, I⟩ := hid3 F hC (fun (a b : Int) (W : World) => fbelow_any (w := W) a b)
 have O : headE V na k n L = (decide (1 ≤ k) && decide (k ≤ 11) && rightE V na k n && decide ((L : Int) = argsE k)) := rfl
 rw [O]
 obtain ⟨r, J⟩ : ∃ r, rightE V na k n = r := ⟨_, rfl⟩
 obtain ⟨q, K⟩ : ∃ q, argsE k = q := ⟨_, rfl⟩
 rw [J, K]
 have C := hid (And.intro J K)
 clear F hC hg O J K
 go_enter Tryz.func164, Tryz.ntmps164
 go_upto_region 2 with fail
 generalize hW1 : w.alloc (.cells #[.int .u8 k, .string nm, .int .i64 n, .slice A L c, .int .i64 p] 29) = W1 at *
 clear hW1
 go_region
 go_upto_block 0 with fail
 go_cut [5, 6] (fun s5 s6 wx => s5 = .int .i64 q ∧ s6 = .bool r ∧ Below W1.heap.size W1 wx)
 case first =>
  have E : Below W1.heap.size W1 W1.drew := bdr_
  have X : k = 1 ∨ k = 2 ∨ k = 3 ∨ k = 4 ∨ (k ≠ 1 ∧ k ≠ 2 ∧ k ≠ 3 ∧ k ≠ 4) := by omega
  rcases X with rfl | rfl | rfl | rfl | ⟨h1, h2, h3, G⟩
  · go_wp2_with fail
    go_region
    go_wp2_with fail
    go_meet
    obtain ⟨rfl, rfl⟩ := C.out
    exact ⟨rfl, rfl, E.drew⟩
  · go_wp2_with fail
    refine (I.out _ _ _).mono ?_
    rintro e Q ⟨rfl, rfl⟩
    go_wp2_with fail
    go_meet
    obtain ⟨rfl, rfl⟩ := C.out
    exact ⟨rfl, rfl, E⟩
  · go_wp2_with fail
    refine (I.out _ _ _).mono ?_
    rintro e Q ⟨rfl, rfl⟩
    go_wp2_with fail
    go_meet
    obtain ⟨rfl, rfl⟩ := C.out
    exact ⟨rfl, rfl, E⟩
  · go_wp2_with fail
    go_meet
    obtain ⟨rfl, rfl⟩ := C.out
    exact ⟨rfl, by simp [rightE], E⟩
  · go_wp2_with fail
    go_meet
    obtain ⟨rfl, rfl⟩ := C.out
    exact ⟨by simp [argsE, h1, h2, h3, G], by simp [rightE, h1, h2, h3], E⟩
 case rest =>
  obtain ⟨rfl, rfl, B⟩ := hcut
  replace M := keepC B M
  replace N := keepC B N
  have D := hid (from_ P.out B)
  clear S T U P B C I
  by_cases h1 : 1 ≤ k
  · by_cases h2 : k ≤ 11
    · cases r with
      | false =>
        go_wp2
        go_ret
        exact ⟨by simp, D.out⟩
      | true =>
        by_cases h3 : (L : Int) = q
        · have G : ((L : Int) == q) = true := beq_iff_eq.2 h3
          have H := hid h3
          clear h3
          go_wp2_with fail
          refine (Z.out _ D.out).mono ?_
          rintro e Q ⟨rfl, B⟩
          have Y := hid (from_ D.out B)
          clear B
          go_wp2
          go_ret
          exact ⟨by simp [h1, h2, H.out], Y.out⟩
        · have G : ((L : Int) == q) = false := beq_eq_false_iff_ne.2 h3
          have H := hid h3
          clear h3
          go_wp2
          go_ret
          exact ⟨by simp [H.out], D.out⟩
    · go_wp2
      go_ret
      exact ⟨by simp; intros; omega, D.out⟩
  · go_wp2
    go_ret
    exact ⟨by simp; intros; omega, D.out⟩
theorem fnot_any {w : World} {G : Nat} {caps : Array Value} {a b c d e : Value} {m : Bool} (hF : Goes F) (hG : G = 165 ∨ G = 115) (hf : w.cell? ⟨bf, 0, none⟩ = some (.func (.func F) #[] caps))
  (hC : ∀ W, Below w.heap.size w W → Calls Tryz.prog F (#[.agg #[a, b, c, d, e]] ++ caps) W fun e w' => e = .returned (.bool m) ∧ Below W.heap.size W w') :
  Calls Tryz.prog G #[.agg #[a, b, c, d, e], .pointer (some ⟨bf, 0, none⟩)] w fun e w' => e = .returned (.bool (!m)) ∧ Below w.heap.size w w' := by
 have B : Below w.heap.size w (w.alloc (.cells #[a, b, c, d, e] 29)) := (Below.refl _ _).alloc (Nat.le_refl _) _
 have I := keepC B hf
 obtain ⟨D, E⟩ := hid2 B (hC _ B)
 clear B hC hf
 rcases hG with rfl | rfl
 all_goals
  first
  | (go_enter Tryz.func165, Tryz.ntmps165)
  | (go_enter Tryz.func115, Tryz.ntmps115)
  go_wp2_with fail
  rw [hF]
  refine E.out.mono ?_
  rintro e J ⟨rfl, H⟩
  have C := from_ D.out H
  go_wp2
  go_ret
  exact ⟨rfl, C⟩
def mayE (V na : Int) : Nat → Ex → Bool
 | 0, _ => false
 | d + 1, e => headE V na e.k e.n e.l.length && e.l.all (mayE V na d)
theorem not_any_not {l : List Ex} {f : Ex → Bool} {g : Nat → Bool} (h : ∀ j (hj : j < l.length), g j = !f l[j]) : (!(List.range l.length).any g) = l.all f := by
 rw [Bool.eq_iff_iff]
 simp only [Bool.not_eq_true', List.all_eq_true]
 constructor
 · intro h1 e he
   obtain ⟨j, hj, rfl⟩ := List.getElem_of_mem he
   cases h2 : f l[j] with
   | true => rfl
   | false => exact absurd ((any_lt (f := g)).2 ⟨j, hj, by rw [h j hj, h2]; rfl⟩) (by rw [h1]; simp)
 · intro h1
   cases h2 : (List.range l.length).any g with
   | false => rfl
   | true =>
     obtain ⟨j, hj, e⟩ := any_lt.1 h2
     rw [h j hj, h1 _ (List.getElem_mem hj)] at e
     cases e
theorem goes84 : Goes 164 := goes_of Tryz.func164 rfl rfl
theorem goes85 : Goes 165 := goes_of Tryz.func165 rfl rfl
theorem goes52 : Goes 115 := goes_of Tryz.func115 rfl rfl
theorem fmay_any : ∀ {d : Nat} {e : Ex} {w : World} {A : Option Addr} {c : Nat}, ExsAt w d A c e.l → Box6 w bg (.int .i64 V) (.slice Aa na ca) g2 g3 g4 g5 → w.cell? ⟨bf, 0, none⟩ = some (.func (.func 164) #[] #[.pointer (some ⟨bg, 0, none⟩), .pointer (some ⟨bf, 0, none⟩)]) →
  Calls Tryz.prog 164 #[exV e A c, .pointer (some ⟨bg, 0, none⟩), .pointer (some ⟨bf, 0, none⟩)] w fun r w' => r = .returned (.bool (mayE V na (d + 1) e)) ∧ Below w.heap.size w w'
 | 0, e, w, A, c, he, hg, hf => by
   obtain ⟨e0, hc⟩ := he
   have h := fmay1 (k := e.k) (n := e.n) (p := e.p) (nm := e.nm) (A := A) (c := c) (L := e.l.length) (R := false) (bf := bf) hg fun W hW => by
    have := scontains_expr (w := W) (A := A) (c := c) (n := e.l.length) (x := fun _ _ => undef) (caps := #[.pointer (some ⟨bf, 0, none⟩)]) (f := fun _ => false) goes85 ⟨by rw [e0]; simp, hc, fun h => absurd h (by rw [e0]; simp)⟩ (fun j hj => absurd hj (by rw [e0]; simp))
    rw [e0] at this ⊢
    exact this
   have B : mayE V na 1 e = (headE V na e.k e.n e.l.length && !false) := by rw [mayE, e0]; rfl
   rw [B]
   exact h
 | d + 1, e, w, A, c, he, hg, hf => by
   obtain ⟨F, G, D, E⟩ := he
   have h := fmay1 (k := e.k) (n := e.n) (p := e.p) (nm := e.nm) (A := A) (c := c) (L := e.l.length) (R := (List.range e.l.length).any fun j => !((e.l[j]?).map (mayE V na (d + 1))).getD false) (bf := bf) hg fun W hW =>
    scontains_expr (caps := #[.pointer (some ⟨bf, 0, none⟩)]) goes85 (D.below hW) fun j hj X hX => by
     rw [exC_at hj]
     have C : (e.l[j]?.map (mayE V na (d + 1))).getD false = mayE V na (d + 1) e.l[j] := by rw [List.getElem?_eq_getElem hj]; rfl
     rw [C]
     exact fnot_any goes84 (.inl rfl) (keepC hX (keepC hW hf)) fun Y hY => fmay_any (((E j hj).below hW).below hX |>.below hY) (((hg.below hW).below hX).below hY) (keepC hY (keepC hX (keepC hW hf)))
   have B : mayE V na (d + 2) e = (headE V na e.k e.n e.l.length && !((List.range e.l.length).any fun j => !((e.l[j]?).map (mayE V na (d + 1))).getD false)) := by
    rw [mayE, not_any_not (f := mayE V na (d + 1))]
    intro j hj
    rw [List.getElem?_eq_getElem hj]
    rfl
   rw [B]
   exact h
theorem all_lt {f : Nat → Bool} {n : Nat} : (List.range n).all f = true ↔ ∀ j, j < n → f j = true := by
 simp [List.all_eq_true]
theorem exC_0 {l : List Ex} {AA : Nat → Option Addr} {CC : Nat → Nat} (hj : j < l.length) : exC l AA CC j 0 = .int .u8 l[j].k := by simp [exC, List.getElem?_eq_getElem hj]
theorem exC_1 {l : List Ex} {AA : Nat → Option Addr} {CC : Nat → Nat} (hj : j < l.length) : exC l AA CC j 1 = .string l[j].nm := by simp [exC, List.getElem?_eq_getElem hj]
theorem exC_2 {l : List Ex} {AA : Nat → Option Addr} {CC : Nat → Nat} (hj : j < l.length) : exC l AA CC j 2 = .int .i64 l[j].n := by simp [exC, List.getElem?_eq_getElem hj]
theorem exC_3 {l : List Ex} {AA : Nat → Option Addr} {CC : Nat → Nat} (hj : j < l.length) : exC l AA CC j 3 = .slice (AA j) l[j].l.length (CC j) := by simp [exC, List.getElem?_eq_getElem hj]
theorem exC_4 {l : List Ex} {AA : Nat → Option Addr} {CC : Nat → Nat} (hj : j < l.length) : exC l AA CC j 4 = .int .i64 l[j].p := by simp [exC, List.getElem?_eq_getElem hj]
theorem sequal_expr {w : World} {n m : Nat} {l l' : List Ex} {AA BB : Nat → Option Addr} {CC DD : Nat → Nat} {f : Nat → Bool} (hF : Goes F) (hn : n = l.length) (hm : m = l'.length) (ha : RowK 5 w A c n (exC l AA CC)) (hb : RowK 5 w B d m (exC l' BB DD))
  (hf : ∀ j (hj : j < l.length) (hj' : j < l'.length), ∀ W, Below w.heap.size w W → Calls Tryz.prog F #[exV l[j] (AA j) (CC j), exV l'[j] (BB j) (DD j)] W fun e w' => e = .returned (.bool (f j)) ∧ Below W.heap.size W w') :
  Calls Tryz.prog 117 #[.slice A n c, .slice B m d, .func (.func F) #[] #[]] w fun e w' => e = .returned (.bool (decide (n = m) && (List.range n).all f)) ∧ Below w.heap.size w w' := by
 by_cases hl : n = m
 · subst hl
   have Kb : ((n : Int) != (n : Int)) = false := bne_self_eq_false _
   have o := ha.len
   obtain ⟨z, Hb, Hf, g⟩ := hid4 ha hb hf (And.intro hn hm)
   rw [decide_eq_true rfl, Bool.true_and]
   clear ha hb hf hn hm
   go_enter Tryz.func117, Tryz.ntmps117
   go_wp2
   go_loopw [17] (fun i wr => ∃ k : Nat, k ≤ n ∧ i = .int .i64 (k : Int) ∧ Below w.heap.size w wr ∧ Hid (∀ j, j < k → f j = true)) (fun i _ => n - (intOf i).toNat)
   case atStart => exact ⟨0, Nat.zero_le _, rfl, Below.refl _ _, fun j h => absurd h (by omega)⟩
   case round =>
    obtain ⟨k, hk, rfl, G, H⟩ := hrel
    by_cases hlt : k < n
    · obtain ⟨b1, o1, rfl, Ki, p0, p1, p2, p3, p4⟩ := (z.out.below G).at5 hlt
      obtain ⟨b2, o2, rfl, Kj, K, L, M, N, O⟩ := (Hb.out.below G).at5 hlt
      have D : k < l.length := by have := g.out.1; omega
      have E : k < l'.length := by have := g.out.2; omega
      obtain ⟨x0, P⟩ : ∃ x, l[k].k = x := ⟨_, rfl⟩
      obtain ⟨x1, Q⟩ : ∃ x, l[k].nm = x := ⟨_, rfl⟩
      obtain ⟨x2, S⟩ : ∃ x, l[k].n = x := ⟨_, rfl⟩
      obtain ⟨x3, T⟩ : ∃ x, l[k].l.length = x := ⟨_, rfl⟩
      obtain ⟨x4, U⟩ : ∃ x, l[k].p = x := ⟨_, rfl⟩
      obtain ⟨y0, V⟩ : ∃ x, l'[k].k = x := ⟨_, rfl⟩
      obtain ⟨y1, X⟩ : ∃ x, l'[k].nm = x := ⟨_, rfl⟩
      obtain ⟨y2, Y⟩ : ∃ x, l'[k].n = x := ⟨_, rfl⟩
      obtain ⟨y3, Z⟩ : ∃ x, l'[k].l.length = x := ⟨_, rfl⟩
      obtain ⟨y4, a⟩ : ∃ x, l'[k].p = x := ⟨_, rfl⟩
      rw [exC_0 D, P] at p0
      rw [exC_1 D, Q] at p1
      rw [exC_2 D, S] at p2
      rw [exC_3 D, T] at p3
      rw [exC_4 D, U] at p4
      rw [exC_0 E, V] at K
      rw [exC_1 E, X] at L
      rw [exC_2 E, Y] at M
      rw [exC_3 E, Z] at N
      rw [exC_4 E, a] at O
      have C : Below wr.heap.size wr (wr.alloc (.cells #[.int .u8 x0, .string x1, .int .i64 x2, .slice (AA k) x3 (CC k), .int .i64 x4] 29)) := (Below.refl _ _).alloc (Nat.le_refl _) _
      have I := C.alloc C.size (.cells #[.int .u8 y0, .string y1, .int .i64 y2, .slice (BB k) y3 (DD k), .int .i64 y4] 29)
      have J := Hf.out k D E _ (from_ G I)
      rw [exV, exV, P, Q, S, T, U, V, X, Y, Z, a] at J
      clear P Q S T U V X Y Z a D E
      have q : Hid (f k = true → ∀ j, j < k + 1 → f j = true) := fun hx j hjk => by
       rcases Nat.lt_or_ge j k with h3 | h3
       · exact H.out j h3
       · obtain rfl : j = k := by omega
         exact hx
      have r : Hid (f k = false → (List.range n).all f = false) := fun hx => by
       cases h : (List.range n).all f with
       | false => rfl
       | true =>
         rw [all_lt.1 h k hlt] at hx
         cases hx
      have Kc := keepC C K
      have Kd := keepC C L
      have Ke := keepC C M
      have Kf := keepC C N
      have Kg := keepC C O
      have s := hid (from_ G I)
      clear H C I K L M N O
      have u : f k = true ∨ f k = false := by cases f k <;> simp
      generalize f k = R at *
      generalize AA k = A1 at *
      generalize CC k = C1 at *
      generalize BB k = B1 at *
      generalize DD k = D1 at *
      rcases u with rfl | rfl
      all_goals
       have v := hid J
       clear J
       go_wp2_with fail
       rw [hF]
       refine v.out.mono ?_
       rintro e w1 ⟨rfl, Ka⟩
       have b := from_ s.out Ka
       go_wp2
      · go_roundw
        case rel => exact ⟨k + 1, by omega, by go_num, b, hid (q.out (by first | rfl | trivial))⟩
        case measure => simp [intOf] <;> omega
      · go_ret
        rw [r.out (by first | rfl | trivial)]
        exact ⟨rfl, b⟩
    · obtain rfl : k = n := by omega
      have y := hid (all_lt.2 H.out)
      clear H
      go_wp2
      go_ret
      rw [y.out]
      exact ⟨rfl, G⟩
 · have hd : ((n : Int) != (m : Int)) = true := bne_iff_ne.2 (by omega)
   have o := ha.len
   have Kh := hb.len
   rw [decide_eq_false hl, Bool.false_and]
   clear ha hb hf hn hm
   go_enter Tryz.func117, Tryz.ntmps117
   go_wp2
   go_ret
   exact ⟨rfl, Below.refl _ _⟩
theorem falike1 {w : World} {M : Nat} {k n p k' n' p' : Int} {nm nm' : ByteArray} 
  (hC : ∀ W, Below w.heap.size w W → Calls Tryz.prog 117 #[.slice A L c, .slice B M d, .func (.func 118) #[] #[]] W fun e w' => e = .returned (.bool R) ∧ Below W.heap.size W w') :
  Calls Tryz.prog 118 #[.agg #[.int .u8 k, .string nm, .int .i64 n, .slice A L c, .int .i64 p], .agg #[.int .u8 k', .string nm', .int .i64 n', .slice B M d, .int .i64 p']] w fun e w' =>
   e = .returned (.bool (k == k' && n == n' && R)) ∧ Below w.heap.size w w' := by
 have C : Below w.heap.size w (w.alloc (.cells #[.int .u8 k, .string nm, .int .i64 n, .slice A L c, .int .i64 p] 29)) := (Below.refl _ _).alloc (Nat.le_refl _) _
 have D := C.alloc C.size (.cells #[.int .u8 k', .string nm', .int .i64 n', .slice B M d, .int .i64 p'] 29)
 obtain ⟨F, I⟩ := hid2 D (hC _ D)
 clear D C hC
 by_cases h1 : k = k'
 · subst h1
   rw [beq_self_eq_true, Bool.true_and]
   by_cases h2 : n = n'
   · subst h2
     rw [beq_self_eq_true, Bool.true_and]
     have E : (k == k) = true := beq_self_eq_true _
     have G : (n == n) = true := beq_self_eq_true _
     go_enter Tryz.func118, Tryz.ntmps118
     go_wp2_with fail
     refine I.out.mono ?_
     rintro e K ⟨rfl, J⟩
     have H := from_ F.out J
     go_wp2
     go_ret
     exact ⟨rfl, H⟩
   · have G : (n == n') = false := beq_eq_false_iff_ne.2 h2
     have E : (k == k) = true := beq_self_eq_true _
     rw [G, Bool.false_and]
     clear h2
     go_enter Tryz.func118, Tryz.ntmps118
     go_wp2
     go_ret
     exact ⟨rfl, F.out⟩
 · have E : (k == k') = false := beq_eq_false_iff_ne.2 h1
   rw [E, Bool.false_and, Bool.false_and]
   clear h1
   go_enter Tryz.func118, Tryz.ntmps118
   go_wp2
   go_ret
   exact ⟨rfl, F.out⟩
def alikeL (f : Ex → Ex → Bool) (l m : List Ex) : Bool := decide (l.length = m.length) && (List.range l.length).all fun j => match l[j]?, m[j]? with | some x, some y => f x y | _, _ => false
def alikeE : Nat → Ex → Ex → Bool
 | 0, _, _ => false
 | d + 1, a, b => a.k == b.k && a.n == b.n && alikeL (alikeE d) a.l b.l
theorem goes55 : Goes 118 := goes_of Tryz.func118 rfl rfl
mutual
theorem falike_any : ∀ {d : Nat} {a b : Ex} {w : World} {A B : Option Addr} {c c' : Nat}, ExsAt w d A c a.l → ExsAt w d B c' b.l →
  Calls Tryz.prog 118 #[exV a A c, exV b B c'] w fun r w' => r = .returned (.bool (alikeE (d + 1) a b)) ∧ Below w.heap.size w w'
 | d, a, b, w, A, B, c, c', ha, hb => falike1 (fun W hW => fequal_any (ha.below hW) (hb.below hW))
theorem fequal_any : ∀ {d : Nat} {l m : List Ex} {w : World} {A B : Option Addr} {c c' : Nat}, ExsAt w d A c l → ExsAt w d B c' m →
  Calls Tryz.prog 117 #[.slice A l.length c, .slice B m.length c', .func (.func 118) #[] #[]] w fun e w' => e = .returned (.bool (alikeL (alikeE d) l m)) ∧ Below w.heap.size w w'
 | 0, l, m, w, A, B, c, c', ⟨e1, h1⟩, ⟨e2, h2⟩ => by
   subst e1
   subst e2
   exact sequal_expr (l := []) (l' := []) (AA := fun _ => none) (CC := fun _ => 0) (BB := fun _ => none) (DD := fun _ => 0) (f := fun _ => true) goes55 rfl rfl ⟨Nat.zero_le _, h1, fun h => absurd h (by simp)⟩ ⟨Nat.zero_le _, h2, fun h => absurd h (by simp)⟩ (fun j hj => absurd hj (by simp))
 | d + 1, l, m, w, A, B, c, c', ⟨AA, CC, h1, g1⟩, ⟨BB, DD, h2, g2⟩ => by
   refine sequal_expr goes55 rfl rfl h1 h2 fun j hj hj2 W hW => ?_
   rw [List.getElem?_eq_getElem hj, List.getElem?_eq_getElem hj2]
   exact falike_any ((g1 j hj).below hW) ((g2 j hj2).below hW)
end
theorem alikeE_refl {na : Int} : ∀ {d : Nat} {e : Ex}, mayE V na d e = true → alikeE d e e = true
 | 0, e, h => by cases h
 | d + 1, e, h => by
   rw [mayE, Bool.and_eq_true, List.all_eq_true] at h
   rw [alikeE, alikeL, beq_self_eq_true, beq_self_eq_true, decide_eq_true rfl, Bool.true_and, Bool.true_and]
   refine all_lt.2 fun j hj => ?_
   rw [List.getElem?_eq_getElem hj]
   exact alikeE_refl (h.2 _ (List.getElem_mem hj))
end Go.Proofs.YtdncgncijbnjpaaGreat
