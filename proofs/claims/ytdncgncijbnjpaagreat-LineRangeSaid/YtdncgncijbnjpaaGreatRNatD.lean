/- The contracts of nat.Add and nat.Sub. No conditions but that a number has at most a million limbs. -/
import Derived.Laws.Externs
import Derived.Test.YtdncgncijbnjpaaGreatRCmpB
set_option linter.unusedVariables false
set_option linter.unusedSimpArgs false
set_option maxRecDepth 100000
set_option maxHeartbeats 40000000
namespace Go.Proofs.YtdncgncijbnjpaaGreat
open Go.Lib (hid)
open Go.RowKit Go.Shelf
variable {A A' : Option Addr} {Y Z : Zone} {a b : Value} {base c m : Nat} {e : TypeId} {la lb : List Nat}
theorem upto_fst (la lb : List Nat) (k : Nat) : (upto (fun j => (la[j]?.getD 0, lb[j]?.getD 0)) k).map (·.1) = (List.range k).map fun j => la[j]?.getD 0 := by simp [upto, Function.comp_def]
theorem upto_snd (la lb : List Nat) (k : Nat) : (upto (fun j => (la[j]?.getD 0, lb[j]?.getD 0)) k).map (·.2) = (List.range k).map fun j => lb[j]?.getD 0 := by simp [upto, Function.comp_def]
theorem val_pad (l : List Nat) (k : Nat) (h : l.length ≤ k) : val ((List.range k).map fun j => l[j]?.getD 0) = val l := by
 have e : ((List.range k).map fun j => l[j]?.getD 0) = l ++ List.replicate (k - l.length) 0 := by
  apply List.ext_getElem
  · simp; omega
  · intro j h1 h2
    by_cases hj : j < l.length
    · rw [List.getElem_append_left hj]; simp [hj]
    · rw [List.getElem_append_right (by omega)]; simp [hj]
 rw [e, val_append, val_replicate0]
 simp
theorem small_upto (ha : Small la) (hb : Small lb) {k : Nat} : ∀ p ∈ upto (fun j => (la[j]?.getD 0, lb[j]?.getD 0)) k, p.1 < 18446744073709551616 ∧ p.2 < 18446744073709551616 := fun p hp => by
 obtain ⟨j, _, rfl⟩ := List.mem_map.1 hp
 exact ⟨ha.getD j, hb.getD j⟩
abbrev addZ (x y c : Nat) : Nat := (x + y + c) % 18446744073709551616
abbrev addC (x y c : Nat) : Nat := (x + y + c) / 18446744073709551616
abbrev subZ (x y c : Nat) : Nat := (x + 18446744073709551616 - y - c) % 18446744073709551616
abbrev subC (x y c : Nat) : Nat := if x < y + c then 1 else 0
theorem joinO_add (ps : List (Nat × Nat)) (hs : ∀ p ∈ ps, p.1 < 18446744073709551616 ∧ p.2 < 18446744073709551616) : val (joinO addZ addC ps).1 + 18446744073709551616 ^ ps.length * (joinO addZ addC ps).2 = val (ps.map (·.1)) + val (ps.map (·.2)) := by
 induction ps using snoc_ind with
 | h0 => rfl
 | h1 ps p A =>
   have B := joinO_length addZ addC ps
   have A := A fun q hq => hs q (List.mem_append_left _ hq)
   obtain ⟨h1, C⟩ := hs p (List.mem_append_right _ (List.mem_singleton.2 rfl))
   rw [joinO_snoc, Nat.mod_eq_of_lt h1, Nat.mod_eq_of_lt C, List.map_append, List.map_append, val_append, val_append, val_append, B]
   simp only [List.map_cons, List.map_nil, List.length_map, val, List.length_append, List.length_cons, List.length_nil, Nat.pow_add]
   have e : (p.1 + p.2 + (joinO addZ addC ps).2) % 18446744073709551616 + 18446744073709551616 * ((p.1 + p.2 + (joinO addZ addC ps).2) / 18446744073709551616) = p.1 + p.2 + (joinO addZ addC ps).2 := by omega
   have D := congrArg (fun t => 18446744073709551616 ^ ps.length * t) e
   simp only [addZ, addC]
   grind
theorem joinO_sub (ps : List (Nat × Nat)) (hs : ∀ p ∈ ps, p.1 < 18446744073709551616 ∧ p.2 < 18446744073709551616) :
  val (joinO subZ subC ps).1 + val (ps.map (·.2)) = val (ps.map (·.1)) + 18446744073709551616 ^ ps.length * (joinO subZ subC ps).2 ∧ (joinO subZ subC ps).2 ≤ 1 := by
 induction ps using snoc_ind with
 | h0 => exact ⟨rfl, Nat.zero_le _⟩
 | h1 ps p A =>
   have B := joinO_length subZ subC ps
   obtain ⟨A, F⟩ := A fun q hq => hs q (List.mem_append_left _ hq)
   obtain ⟨h1, D⟩ := hs p (List.mem_append_right _ (List.mem_singleton.2 rfl))
   rw [joinO_snoc, Nat.mod_eq_of_lt h1, Nat.mod_eq_of_lt D, List.map_append, List.map_append, val_append, val_append, val_append, B]
   simp only [List.map_cons, List.map_nil, List.length_map, val, List.length_append, List.length_cons, List.length_nil, Nat.pow_add]
   have e : subZ p.1 p.2 (joinO subZ subC ps).2 + p.2 + (joinO subZ subC ps).2 = p.1 + 18446744073709551616 * subC p.1 p.2 (joinO subZ subC ps).2 := by
    simp only [subZ, subC]; split <;> omega
   have C : subC p.1 p.2 (joinO subZ subC ps).2 ≤ 1 := by simp only [subC]; split <;> omega
   generalize subZ p.1 p.2 (joinO subZ subC ps).2 = z at *
   generalize subC p.1 p.2 (joinO subZ subC ps).2 = c at *
   refine ⟨?_, C⟩
   have E := congrArg (fun t => 18446744073709551616 ^ ps.length * t) e
   grind
theorem small_joinO {fz fc : Nat → Nat → Nat → Nat} (hz : ∀ x y c, fz x y c < 18446744073709551616) (ps : List (Nat × Nat)) : Small (joinO fz fc ps).1 := by
 induction ps using snoc_ind with
 | h0 => exact Small.nil
 | h1 ps p ih => rw [joinO_snoc]; exact ih.append (Small.cons (hz _ _ _) Small.nil)
theorem run_Add64 (x y c : Nat) (w : World) (_ : x < 18446744073709551616) (_ : y < 18446744073709551616) (hc : c ≤ 1) : (callFunc 253 #[.int .u64 (x : Int), .int .u64 (y : Int), .int .u64 (c : Int)]).run Tryz.prog w = .ok (.value (.tuple #[.int .u64 (addZ x y c : Int), .int .u64 (addC x y c : Int)])) w := by
 rw [run_callFunc_extern Tryz.func253 (by kernel_rfl) (by kernel_rfl) (by kernel_rfl) (e := add64Entry) (by kernel_rfl), run_add64 x y c (by omega) (by omega) (by omega) (by omega)]
 simp only [Result.andThen]
 congr 5 <;> simp [addZ, addC]
def sub64E : Array Value → Sem Value := fun args => do
 let (x, y, b) ← Extern.MathBitsCarry.three "Sub64" args
 pure (Extern.MathBitsCarry.pair ((x + Extern.MathBitsCarry.m64 - y - b) % Extern.MathBitsCarry.m64) (if x < y + b then 1 else 0))
theorem run_sub64E {P : Program} (x y b : Nat) (hb : b ≤ 1) (w : World) :
  (sub64E #[.int .u64 x, .int .u64 y, .int .u64 b]).run P w = .ok (.tuple #[.int .u64 (subZ x y b : Int), .int .u64 (subC x y b : Int)]) w := by
 have : b = 0 ∨ b = 1 := by omega
 rcases this with rfl | rfl <;> rfl
theorem run_Sub64 (x y c : Nat) (w : World) (_ : x < 18446744073709551616) (_ : y < 18446744073709551616) (hc : c ≤ 1) : (callFunc 254 #[.int .u64 (x : Int), .int .u64 (y : Int), .int .u64 (c : Int)]).run Tryz.prog w = .ok (.value (.tuple #[.int .u64 (subZ x y c : Int), .int .u64 (subC x y c : Int)])) w := by
 rw [run_callFunc_extern Tryz.func254 (by kernel_rfl) (by kernel_rfl) (by kernel_rfl) (e := sub64E) (by kernel_rfl), run_sub64E x y c hc]
 rfl
theorem joined_any (g : FuncId) (fz fc : Nat → Nat → Nat → Nat)
  (hof : ∀ (x y c : Nat) (w : World), x < 18446744073709551616 → y < 18446744073709551616 → c ≤ 1 → (callFunc g #[.int .u64 (x : Int), .int .u64 (y : Int), .int .u64 (c : Int)]).run Tryz.prog w = .ok (.value (.tuple #[.int .u64 (fz x y c : Int), .int .u64 (fc x y c : Int)])) w)
  (hfc : ∀ x y c, x < 18446744073709551616 → y < 18446744073709551616 → c ≤ 1 → fc x y c ≤ 1) {ca cb : Nat} (w : World) (ha : U64s w Z A ca la) (hb : U64s w Z A' cb lb) (hla : la.length ≤ 1000000000000) (hlb : lb.length ≤ 1000000000000) :
  Calls Tryz.prog 252 #[.slice A la.length ca, .slice A' lb.length cb, .func (.func g) #[] #[]] w fun e W' => ∃ v, e = .returned (.tuple #[v, .int .u64 ((joinO fz fc (upto (fun j => (la[j]?.getD 0, lb[j]?.getD 0)) (max la.length lb.length))).2 : Int)]) ∧
   W'.ownsRow w.heap.size 143 1 v (max la.length lb.length) ((joinO fz fc (upto (fun j => (la[j]?.getD 0, lb[j]?.getD 0)) (max la.length lb.length))).1.map fun x : Nat => Value.int .u64 (x : Int)) ∧ Below w.heap.size w W' :=
 callsIn_wide.1 (joined_in Fence.wide 3 trivial trivial trivial rfl (by omega) g trivial fz fc hof hfc w ha hb hla hlb)
theorem given_two {w : World} {c' : Nat} {l l' : List Nat} (ha : U64s w Z A c l) (hb : U64s w Y A' c' l') :
  Given (w.alloc (.cells #[.slice A l.length c, .slice A' l'.length c'] 33)) w.heap.size [l, l'] := by
 have B : Below w.heap.size w (w.alloc (.cells #[.slice A l.length c, .slice A' l'.length c'] 33)) := (Below.refl _ w).alloc (Nat.le_refl _) _
 intro j hj
 match j, hj with
 | 0, _ => exact ⟨A, c, by simp, (ha.mono (le_old _)).below B⟩
 | 1, _ => exact ⟨A', c', by simp, (hb.mono (le_old _)).below B⟩
theorem isN_trimU {w : World} {l : List Nat} {t : Nat} (hv : val l = t) (hu : U64s w Z A c l) : IsN w Z (.slice A (limbs (val l)).length (limbs (val l)).length) t := by
 have B := hu.small
 have H := len_val_le B
 subst hv
 refine ⟨A, _, rfl, ?_⟩
 have E : limbs (val l) = l.take (limbs (val l)).length := by
  have F := trimL_spec l B
  have G : ∀ m : List Nat, trimL m = m.take (trimL m).length := by
   intro m
   induction m with
   | nil => rfl
   | cons x m ih =>
     rw [trimL]
     split
     · rename_i h0
       by_cases hx : x = 0 <;> simp [hx]
     · rename_i y k h0
       rw [h0] at ih
       simp only [List.length_cons, List.take_succ_cons] at ih ⊢
       rw [← ih]
  have C := G l
  rw [F] at C
  exact C
 have D := (hu.take (limbs (val l)).length)
 rw [← E] at D
 exact D.clip (fun hA => by have := hu.nul hA; have := hu.cap; omega)
theorem trim_len {w : World} {n : Nat} {l : List Nat} (h : U64s w Z A c l) (hn : n = l.length) :
  Calls Tryz.prog 163 #[.slice A n c] w fun e w' => e = .returned (.slice A (limbs (val l)).length (limbs (val l)).length) ∧ w = w' := by
 subst hn
 exact trim_any h
theorem own_shape {w : World} {size : Nat} {v : Value} {n : Nat} {xs : List Value} (h : w.ownsRow base e size v n xs) : ∃ A c, v = .slice A n c := by
 rcases h.2 with ⟨rfl, rfl⟩ | ⟨g, cap, _, rfl, _⟩
 · exact ⟨none, 0, rfl⟩
 · exact ⟨_, cap, rfl⟩
theorem isU_after {w1 : World} {B : Nat} {n : Nat} {l : List Nat} (hs : Small l) (hl : n = l.length) (h : w1.ownsRow base e 1 (.slice A n c) n (l.map fun x : Nat => Value.int .u64 (x : Int))) (hB : B ≤ base) : U64s w1 (new B) A c l :=
 (U64s.of_own hs h).2.mono (new_le hB)
theorem add_good {w : World} {n : Nat} (ha : IsN w Z a m) (hb : IsN w Y b n) (hm : (limbs m).length ≤ 900000000000) (hn : (limbs n).length ≤ 900000000000) :
  Calls Tryz.prog 224 #[a, b] w fun e w' => ∃ v, e = .returned (.tuple #[v, .int .i64 0]) ∧ IsN w' (new w.heap.size) v (m + n) ∧ Below w.heap.size w w' := by
 obtain ⟨A, i, rfl, ha⟩ := ha
 obtain ⟨o, q, rfl, hb⟩ := hb
 have I := good_limbs m
 have J := good_limbs n
 have T := hid (given_two ha hb)
 have L : ∀ l ∈ [limbs m, limbs n], good l = true := by simp [I, J]
 have U := hid L
 clear L I J
 have D : Below w.heap.size w (w.alloc (.cells #[.slice A (limbs m).length i, .slice o (limbs n).length q] 33)) := (Below.refl _ w).alloc (Nat.le_refl _) _
 have V := (ha.mono (le_old _)).below D
 have W := (hb.mono (le_old _)).below D
 have E := upto_length (fun j => ((limbs m)[j]?.getD 0, (limbs n)[j]?.getD 0)) (max (limbs m).length (limbs n).length)
 have F := joinO_add (upto (fun j => ((limbs m)[j]?.getD 0, (limbs n)[j]?.getD 0)) (max (limbs m).length (limbs n).length)) (small_upto ha.small hb.small)
 rw [upto_fst, upto_snd, val_pad _ _ (Nat.le_max_left _ _), val_pad _ _ (Nat.le_max_right _ _), val_limbs, val_limbs, E] at F
 have X := small_joinO (fz := addZ) (fc := addC) (fun x y c => Nat.mod_lt _ (by omega)) (upto (fun j => ((limbs m)[j]?.getD 0, (limbs n)[j]?.getD 0)) (max (limbs m).length (limbs n).length))
 have G : ∀ x y c, x < 18446744073709551616 → y < 18446744073709551616 → c ≤ 1 → addC x y c ≤ 1 := fun x y c hx hy hc => by simp only [addC]; omega
 have Kc := joinO_carry addZ addC G (upto (fun j => ((limbs m)[j]?.getD 0, (limbs n)[j]?.getD 0)) (max (limbs m).length (limbs n).length))
 have C := joinO_length addZ addC (upto (fun j => ((limbs m)[j]?.getD 0, (limbs n)[j]?.getD 0)) (max (limbs m).length (limbs n).length))
 rw [E] at C
 have M := joined_any 253 addZ addC run_Add64 G _ V W (by omega) (by omega)
 generalize joinO addZ addC (upto (fun j => ((limbs m)[j]?.getD 0, (limbs n)[j]?.getD 0)) (max (limbs m).length (limbs n).length)) = R at *
 obtain ⟨r, Kd, Ke⟩ := hid3 M F C
 have hK : max (limbs m).length (limbs n).length ≤ 900000000000 := by omega
 have d : Small (R.1 ++ [R.2]) := X.append (Small.cons (by omega) Small.nil)
 have N : val (R.1 ++ [R.2]) = m + n := by rw [val_append, C]; simp only [val]; omega
 obtain ⟨P, s⟩ := hid2 (show max (limbs m).length (limbs n).length + 1 = (R.1 ++ [R.2]).length by rw [List.length_append, C]; rfl) N
 clear M F C E G N
 generalize max (limbs m).length (limbs n).length = K at *
 obtain ⟨u, hi, z, Ka, Kb⟩ := info_parts Tryz.info143
 go_enter Tryz.func224, Tryz.ntmps224
 go_wp2_with (go_at_call 251; refine (checked_good (ls := [limbs m, limbs n]) T.out (by simp) U.out).mono ?_; rintro e w' ⟨rfl, rfl⟩)
 refine r.out.mono ?_
 rintro e Q ⟨v, rfl, H, S⟩
 have g := S.size
 simp only [World.size_alloc] at g H
 go_wp2_with (first | (at_builtin; go_loud (refine wpList_append_own _ rfl _ _ 33 rfl (w.heap.size + 1) 143 u (.int .u64 0) 1 8 Tryz.underlying33 hi z Ka Kb rfl (by decide) _ _ _ rfl (H.alloc _) ⟨Q.heap.size, 0, none⟩ 1 1 [.int .u64 (R.2 : Int)] rfl rfl (cell_one_new _ _ _) (by simp [Value.oneCell']) (by simp only [maxLen]; omega) (by omega) (by simp; omega) ?_); intro v' w2 hown' hgrow _; obtain ⟨g', Kf, rfl⟩ := ownsRow_succ hown'; have O := isU_after (B := w.heap.size) d P.out (by simpa using hown') (by omega); have h := (D.trans (S.mono (by simp))).trans (((Below.refl w.heap.size Q).alloc (by omega) _).grown hgrow (by simp; omega) (fun k hk => by have := H.lt k hk; omega))) | (go_at_call 163; refine (trim_len O P.out).mono ?_; rintro e w' ⟨rfl, rfl⟩))
 go_ret2
 exact ⟨_, rfl, isN_trimU s.out O, h⟩
theorem sub_good {w : World} {n : Nat} (ha : IsN w Z a m) (hb : IsN w Y b n) (hm : (limbs m).length ≤ 900000000000) (hn : (limbs n).length ≤ 900000000000) (hle : n ≤ m) :
  Calls Tryz.prog 225 #[a, b] w fun e w' => ∃ v, e = .returned (.tuple #[v, .int .i64 0]) ∧ IsN w' (new w.heap.size) v (m - n) ∧ Below w.heap.size w w' := by
 obtain ⟨A, q, rfl, ha⟩ := ha
 obtain ⟨r, s, rfl, hb⟩ := hb
 have J := good_limbs m
 have L := good_limbs n
 have V := hid (given_two ha hb)
 have M : ∀ l ∈ [limbs m, limbs n], good l = true := by simp [J, L]
 have W := hid M
 clear M J L
 have E : Below w.heap.size w (w.alloc (.cells #[.slice A (limbs m).length q, .slice r (limbs n).length s] 33)) := (Below.refl _ w).alloc (Nat.le_refl _) _
 have X := (ha.mono (le_old _)).below E
 have d := (hb.mono (le_old _)).below E
 have F := upto_length (fun j => ((limbs m)[j]?.getD 0, (limbs n)[j]?.getD 0)) (max (limbs m).length (limbs n).length)
 obtain ⟨D, Kb⟩ := joinO_sub (upto (fun j => ((limbs m)[j]?.getD 0, (limbs n)[j]?.getD 0)) (max (limbs m).length (limbs n).length)) (small_upto ha.small hb.small)
 rw [upto_fst, upto_snd, val_pad _ _ (Nat.le_max_left _ _), val_pad _ _ (Nat.le_max_right _ _), val_limbs, val_limbs, F] at D
 have N := small_joinO (fz := subZ) (fc := subC) (fun x y c => Nat.mod_lt _ (by omega)) (upto (fun j => ((limbs m)[j]?.getD 0, (limbs n)[j]?.getD 0)) (max (limbs m).length (limbs n).length))
 have O : ∀ x y c, x < 18446744073709551616 → y < 18446744073709551616 → c ≤ 1 → subC x y c ≤ 1 := fun x y c hx hy hc => by simp only [subC]; split <;> omega
 have C := joinO_length subZ subC (upto (fun j => ((limbs m)[j]?.getD 0, (limbs n)[j]?.getD 0)) (max (limbs m).length (limbs n).length))
 rw [F] at C
 have G := joined_any 254 subZ subC run_Sub64 O _ X d (by omega) (by omega)
 generalize joinO subZ subC (upto (fun j => ((limbs m)[j]?.getD 0, (limbs n)[j]?.getD 0)) (max (limbs m).length (limbs n).length)) = R at *
 have P := val_lt N
 rw [C] at P
 have H : R.2 = 0 := by
  rcases Nat.eq_zero_or_pos R.2 with h | h
  · exact h
  · obtain u : R.2 = 1 := by omega
    rw [u] at D
    omega
 have Q : val R.1 = m - n := by rw [H] at D; omega
 rw [H] at G
 obtain ⟨z, Ka, T⟩ := hid3 G Q (show max (limbs m).length (limbs n).length = R.1.length from C.symm)
 have hK : max (limbs m).length (limbs n).length ≤ 900000000000 := by omega
 clear G D C F O Q H P
 generalize max (limbs m).length (limbs n).length = K at *
 go_enter Tryz.func225, Tryz.ntmps225
 go_wp2_with (go_at_call 251; refine (checked_good (ls := [limbs m, limbs n]) V.out (by simp) W.out).mono ?_; rintro e w' ⟨rfl, rfl⟩)
 refine z.out.mono ?_
 rintro e w1 ⟨v, rfl, I, U⟩
 have g := U.size
 simp only [World.size_alloc] at g I
 have i := own_shape I
 obtain ⟨A1, c1, rfl⟩ := i
 have S := isU_after (B := w.heap.size) N T.out I (by omega)
 have o := E.trans (U.mono (by simp))
 go_wp2_with (go_at_call 163; refine (trim_len S T.out).mono ?_; rintro e w' ⟨rfl, rfl⟩)
 go_ret2
 exact ⟨_, rfl, isN_trimU Ka.out S, o⟩
theorem sub_less {w : World} {n : Nat} (ha : IsN w Z a m) (hb : IsN w Y b n) (hm : (limbs m).length ≤ 900000000000) (hn : (limbs n).length ≤ 900000000000) (hle : m < n) :
  Calls Tryz.prog 225 #[a, b] w fun e w' => e = .returned (.tuple #[.slice none 0 0, .int .i64 10]) ∧ Below w.heap.size w w' := by
 obtain ⟨A, P, rfl, ha⟩ := ha
 obtain ⟨Q, S, rfl, hb⟩ := hb
 have E := good_limbs m
 have F := good_limbs n
 have K := hid (given_two ha hb)
 have G : ∀ l ∈ [limbs m, limbs n], good l = true := by simp [E, F]
 have L := hid G
 clear G E F
 have B : Below w.heap.size w (w.alloc (.cells #[.slice A (limbs m).length P, .slice Q (limbs n).length S] 33)) := (Below.refl _ w).alloc (Nat.le_refl _) _
 have M := (ha.mono (le_old _)).below B
 have N := (hb.mono (le_old _)).below B
 have H := upto_length (fun j => ((limbs m)[j]?.getD 0, (limbs n)[j]?.getD 0)) (max (limbs m).length (limbs n).length)
 obtain ⟨D, U⟩ := joinO_sub (upto (fun j => ((limbs m)[j]?.getD 0, (limbs n)[j]?.getD 0)) (max (limbs m).length (limbs n).length)) (small_upto ha.small hb.small)
 rw [upto_fst, upto_snd, val_pad _ _ (Nat.le_max_left _ _), val_pad _ _ (Nat.le_max_right _ _), val_limbs, val_limbs, H] at D
 have I : ∀ x y c, x < 18446744073709551616 → y < 18446744073709551616 → c ≤ 1 → subC x y c ≤ 1 := fun x y c hx hy hc => by simp only [subC]; split <;> omega
 have C := joined_any 254 subZ subC run_Sub64 I _ M N (by omega) (by omega)
 generalize joinO subZ subC (upto (fun j => ((limbs m)[j]?.getD 0, (limbs n)[j]?.getD 0)) (max (limbs m).length (limbs n).length)) = R at *
 have J : R.2 = 1 := by
  rcases Nat.eq_zero_or_pos R.2 with h | h
  · rw [h] at D
    omega
  · omega
 rw [J] at C
 have O := hid C
 clear C D H I J
 go_enter Tryz.func225, Tryz.ntmps225
 go_wp2_with (go_at_call 251; refine (checked_good (ls := [limbs m, limbs n]) K.out (by simp) L.out).mono ?_; rintro e w' ⟨rfl, rfl⟩)
 refine O.out.mono ?_
 rintro e V ⟨v, rfl, W, T⟩
 go_wp2
 go_ret2
 exact ⟨rfl, B.trans (T.mono (by simp))⟩
end Go.Proofs.YtdncgncijbnjpaaGreat
