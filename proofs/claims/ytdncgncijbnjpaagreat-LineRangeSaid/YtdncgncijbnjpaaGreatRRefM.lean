/- Products limb by limb, and by splitting: plain facts. No conditions. -/
set_option linter.unusedVariables false
set_option linter.unusedSimpArgs false
set_option maxRecDepth 100000
set_option maxHeartbeats 40000000

namespace Go.Proofs.YtdncgncijbnjpaaGreat
variable {O a b m : List Nat} {c carry i j q r u x y yh yl : Nat}
def val : List Nat → Nat
 | [] => 0
 | x :: l => x + 18446744073709551616 * val l
def Small (l : List Nat) : Prop := ∀ x ∈ l, x < 18446744073709551616
def good : List Nat → Bool
 | [] => true
 | [x] => x != 0
 | _ :: y :: l => good (y :: l)
def limbsF : Nat → Nat → List Nat
 | 0, _ => []
 | f + 1, n => if n = 0 then [] else n % 18446744073709551616 :: limbsF f (n / 18446744073709551616)
def limbs (n : Nat) : List Nat := limbsF n n
theorem limbsF_fuel : ∀ (f g n : Nat), n ≤ f → n ≤ g → limbsF f n = limbsF g n := by
 intro f
 induction f with
 | zero =>
   intro g n hf hg
   obtain rfl : n = 0 := by omega
   cases g <;> simp [limbsF]
 | succ f ih =>
   intro g n hf hg
   cases g with
   | zero =>
     obtain rfl : n = 0 := by omega
     simp [limbsF]
   | succ g =>
     simp only [limbsF]
     by_cases h : n = 0
     · simp [h]
     · rw [if_neg h, if_neg h, ih g (n / 18446744073709551616) (by omega) (by omega)]
theorem limbs_zero : limbs 0 = [] := rfl
theorem limbs_step (n : Nat) (h : n ≠ 0) : limbs n = n % 18446744073709551616 :: limbs (n / 18446744073709551616) := by
 obtain ⟨m, rfl⟩ : ∃ m, n = m + 1 := ⟨n - 1, by omega⟩
 unfold limbs
 rw [limbsF, if_neg h, limbsF_fuel m ((m + 1) / 18446744073709551616) _ (by omega) (Nat.le_refl _)]
theorem limbs_ind {P : Nat → Prop} (h0 : P 0) (h1 : ∀ n, n ≠ 0 → P (n / 18446744073709551616) → P n) (n : Nat) : P n := by
 induction n using Nat.strongRecOn with
 | ind n ih =>
   by_cases h : n = 0
   · subst h; exact h0
   · exact h1 n h (ih _ (by omega))
theorem val_limbs (n : Nat) : val (limbs n) = n := by
 induction n using limbs_ind with
 | h0 => rfl
 | h1 n h ih => rw [limbs_step n h, val, ih]; omega
theorem small_limbs (n : Nat) : Small (limbs n) := by
 induction n using limbs_ind with
 | h0 => intro x hx; simp [limbs_zero] at hx
 | h1 n h ih =>
   rw [limbs_step n h]
   intro x hx
   rcases List.mem_cons.1 hx with rfl | hx
   · omega
   · exact ih x hx
theorem limbs_eq_nil {n : Nat} : limbs n = [] ↔ n = 0 := by
 constructor
 · intro h
   have := val_limbs n
   rw [h] at this
   simpa [val] using this.symm
 · rintro rfl; rfl
theorem good_limbs (n : Nat) : good (limbs n) = true := by
 induction n using limbs_ind with
 | h0 => rfl
 | h1 n h ih =>
   rw [limbs_step n h]
   by_cases h2 : n / 18446744073709551616 = 0
   · rw [h2, limbs_zero]
     simp only [good, bne_iff_ne]
     omega
   · rw [limbs_step _ h2] at ih ⊢
     exact ih
theorem Small.tail {l : List Nat} (h : Small (x :: l)) : Small l := fun y hy => h y (List.mem_cons_of_mem _ hy)
theorem Small.head {l : List Nat} (h : Small (x :: l)) : x < 18446744073709551616 := h x List.mem_cons_self
theorem Small.nil : Small [] := fun x hx => by cases hx
theorem Small.cons {l : List Nat} (h : x < 18446744073709551616) (hl : Small l) : Small (x :: l) := fun y hy => by
 rcases List.mem_cons.1 hy with rfl | hy
 · exact h
 · exact hl y hy
theorem Small.append {l : List Nat} (h : Small l) (hm : Small m) : Small (l ++ m) := fun y hy => by
 rcases List.mem_append.1 hy with hy | hy
 · exact h y hy
 · exact hm y hy
theorem Small.left {l : List Nat} (h : Small (l ++ m)) : Small l := fun y hy => h y (List.mem_append_left _ hy)
theorem Small.right {l : List Nat} (h : Small (l ++ m)) : Small m := fun y hy => h y (List.mem_append_right _ hy)
theorem Small.take {l : List Nat} (h : Small l) (n : Nat) : Small (l.take n) := fun y hy => h y (List.mem_of_mem_take hy)
theorem Small.drop {l : List Nat} (h : Small l) (n : Nat) : Small (l.drop n) := fun y hy => h y (List.mem_of_mem_drop hy)
theorem Small.get {l : List Nat} (h : Small l) (hj : j < l.length) : l[j] < 18446744073709551616 := h _ (List.getElem_mem hj)
theorem Small.getD {l : List Nat} (h : Small l) (j : Nat) : l[j]?.getD 0 < 18446744073709551616 := by
 by_cases hj : j < l.length
 · simpa [List.getElem?_eq_getElem hj] using h.get hj
 · simp [List.getElem?_eq_none (Nat.le_of_not_lt hj)]
theorem Small.replicate0 (n : Nat) : Small (List.replicate n 0) := fun y hy => by
 have := List.eq_of_mem_replicate hy
 omega
theorem limbs_val : ∀ (l : List Nat), Small l → good l = true → limbs (val l) = l
 | [], _, _ => rfl
 | [x], hs, hg => by
   have hx : x ≠ 0 := by simpa [good] using hg
   have A := hs.head
   have B : val [x] = x := by simp [val]
   rw [B, limbs_step x hx, Nat.mod_eq_of_lt A, Nat.div_eq_of_lt A, limbs_zero]
 | x :: y :: l, hs, hg => by
   have C := limbs_val (y :: l) hs.tail hg
   have A := hs.head
   have B : val (x :: y :: l) = x + 18446744073709551616 * val (y :: l) := rfl
   have F : val (y :: l) ≠ 0 := by
    intro h0
    rw [h0, limbs_zero] at C
    cases C
   rw [B, limbs_step _ (by omega)]
   have D : (x + 18446744073709551616 * val (y :: l)) % 18446744073709551616 = x := by omega
   have E : (x + 18446744073709551616 * val (y :: l)) / 18446744073709551616 = val (y :: l) := by omega
   rw [D, E, C]
theorem val_append (l m : List Nat) : val (l ++ m) = val l + 18446744073709551616 ^ l.length * val m := by
 induction l with
 | nil => simp [val]
 | cons x l ih =>
   rw [List.cons_append, val, val, ih, List.length_cons, Nat.pow_succ]
   grind
theorem val_lt {l : List Nat} (h : Small l) : val l < 18446744073709551616 ^ l.length := by
 induction l with
 | nil => simp [val]
 | cons x l ih =>
   have A := h.head
   have B := ih h.tail
   rw [val, List.length_cons, Nat.pow_succ, Nat.mul_comm]
   omega
theorem val_replicate0 (n : Nat) : val (List.replicate n 0) = 0 := by
 induction n with
 | zero => rfl
 | succ n ih => rw [List.replicate_succ, val, ih]
theorem good_snoc (l : List Nat) (x : Nat) : good (l ++ [x]) = (x != 0) := by
 induction l with
 | nil => rfl
 | cons y l ih =>
   cases l with
   | nil => rfl
   | cons z l => exact ih
theorem good_last {l : List Nat} (h : 0 < l.length) : good l = (l[l.length - 1] != 0) := by
 obtain ⟨m, x, rfl⟩ : ∃ m x, l = m ++ [x] := ⟨l.dropLast, l.getLast (by intro e; subst e; simp at h), (List.dropLast_concat_getLast _).symm⟩
 rw [good_snoc]
 simp
def trimL : List Nat → List Nat
 | [] => []
 | x :: l => match trimL l with
   | [] => if x = 0 then [] else [x]
   | y :: m => x :: y :: m
theorem trimL_spec : ∀ (l : List Nat), Small l → trimL l = limbs (val l)
 | [], _ => rfl
 | x :: l, h => by
   have ih := trimL_spec l h.tail
   have C := h.head
   rw [trimL, ih, val]
   by_cases hv : val l = 0
   · rw [hv, limbs_zero]
     by_cases hx : x = 0
     · simp [hx, limbs_zero]
     · rw [limbs_step _ (by omega)]
       have A : (x + 18446744073709551616 * 0) % 18446744073709551616 = x := by omega
       have B : (x + 18446744073709551616 * 0) / 18446744073709551616 = 0 := by omega
       rw [A, B, limbs_zero]
       simp [hx]
   · have A : (x + 18446744073709551616 * val l) % 18446744073709551616 = x := by omega
     have B : (x + 18446744073709551616 * val l) / 18446744073709551616 = val l := by omega
     rw [limbs_step (x + 18446744073709551616 * val l) (by omega), A, B, limbs_step _ hv]
theorem len_limbs_le {n k : Nat} (h : n < 18446744073709551616 ^ k) : (limbs n).length ≤ k := by
 induction k generalizing n with
 | zero =>
   obtain rfl : n = 0 := by simpa using h
   simp [limbs_zero]
 | succ k ih =>
   by_cases hn : n = 0
   · subst hn; simp [limbs_zero]
   · rw [limbs_step n hn, List.length_cons]
     have : n / 18446744073709551616 < 18446744073709551616 ^ k := by
      rw [Nat.div_lt_iff_lt_mul (by omega), ← Nat.pow_succ]
      exact h
     have := ih this
     omega
theorem lt_pow_len (n : Nat) : n < 18446744073709551616 ^ (limbs n).length := by
 have := val_lt (small_limbs n)
 rwa [val_limbs] at this
theorem len_mono {m n : Nat} (h : m ≤ n) : (limbs m).length ≤ (limbs n).length :=
 len_limbs_le (Nat.lt_of_le_of_lt h (lt_pow_len n))
theorem len_val_le {l : List Nat} (h : Small l) : (limbs (val l)).length ≤ l.length := len_limbs_le (val_lt h)
theorem len_lt {n k : Nat} (h : (limbs n).length ≤ k) : n < 18446744073709551616 ^ k := Nat.lt_of_lt_of_le (lt_pow_len n) (Nat.pow_le_pow_right (by omega) h)
theorem pow_le_len {n : Nat} (h : n ≠ 0) : 18446744073709551616 ^ ((limbs n).length - 1) ≤ n := by
 rcases Nat.lt_or_ge n (18446744073709551616 ^ ((limbs n).length - 1)) with h1 | h1
 · have A := len_limbs_le h1
   have B : (limbs n).length ≠ 0 := fun e => h (limbs_eq_nil.1 (List.length_eq_zero_iff.1 e))
   omega
 · exact h1
theorem val_set (l : List Nat) (p v : Nat) (hp : p < l.length) : val (l.set p v) + 18446744073709551616 ^ p * l[p] = val l + 18446744073709551616 ^ p * v := by
 induction l generalizing p with
 | nil => simp at hp
 | cons x l ih =>
   cases p with
   | zero => simp [val]; omega
   | succ p =>
     have := ih p (by simpa using hp)
     simp only [List.set_cons_succ, val, List.getElem_cons_succ, Nat.pow_succ]
     have e := congrArg (fun t => 18446744073709551616 * t) this
     grind
theorem small_set {l : List Nat} (h : Small l) (p v : Nat) (hv : v < 18446744073709551616) : Small (l.set p v) := fun x hx => by
 rcases List.mem_or_eq_of_mem_set hx with h1 | h1
 · exact h x h1
 · omega
structure Row1 (a b : List Nat) (i j : Nat) (O : List Nat) (carry : Nat) : Prop where
 len : O.length = a.length + b.length
 small : Small O
 word : carry < 18446744073709551616
 zero : ∀ k (h : k < O.length), i + b.length ≤ k → O[k] = 0
 eq : val O + 18446744073709551616 ^ (i + j) * carry = val (a.take i) * val b + 18446744073709551616 ^ i * (a[i]?.getD 0 * val (b.take j))
structure Row0 (a b : List Nat) (i : Nat) (O : List Nat) : Prop where
 len : O.length = a.length + b.length
 small : Small O
 zero : ∀ k (h : k < O.length), i + b.length ≤ k → O[k] = 0
 eq : val O = val (a.take i) * val b
theorem Row0.start (a b : List Nat) : Row0 a b 0 (List.replicate (a.length + b.length) 0) :=
 ⟨by simp, Small.replicate0 _, fun k h _ => by simp, by rw [val_replicate0]; simp [val]⟩
theorem Row0.first (h : Row0 a b i O) : Row1 a b i 0 O 0 := ⟨h.len, h.small, by omega, h.zero, by rw [h.eq]; simp [val]⟩
theorem mul_lt_W (hx : x < 18446744073709551616) (hy : y < 18446744073709551616) : x * y ≤ 18446744073709551615 * 18446744073709551615 := Nat.mul_le_mul (by omega) (by omega)
theorem step_limbs {o : Nat} (hx : x < 18446744073709551616) (hy : y < 18446744073709551616) (ho : o < 18446744073709551616) (hc : c < 18446744073709551616) :
  ((x * y % 18446744073709551616 + o) % 18446744073709551616 + c) % 18446744073709551616 = (x * y + o + c) % 18446744073709551616 ∧
  x * y / 18446744073709551616 + (x * y % 18446744073709551616 + o) / 18446744073709551616 + ((x * y % 18446744073709551616 + o) % 18446744073709551616 + c) / 18446744073709551616 = (x * y + o + c) / 18446744073709551616 ∧
  (x * y + o + c) / 18446744073709551616 < 18446744073709551616 := by
 have h := mul_lt_W hx hy
 generalize x * y = p at *
 omega
theorem Row1.step (h : Row1 a b i j O carry) (hi : i < a.length) (hj : j < b.length) (ha : Small a) (hb : Small b) :
  ∃ hp : i + j < O.length, Row1 a b i (j + 1) (O.set (i + j) ((a[i] * b[j] + O[i + j] + carry) % 18446744073709551616)) ((a[i] * b[j] + O[i + j] + carry) / 18446744073709551616) := by
 have hp : i + j < O.length := by have := h.len; omega
 refine ⟨hp, ⟨by simpa using h.len, small_set h.small _ _ (Nat.mod_lt _ (by omega)), ?_, ?_, ?_⟩⟩
 · exact (step_limbs (ha.get hi) (hb.get hj) (h.small.get hp) h.word).2.2
 · intro k hk hge
   rw [List.getElem_set_ne (by omega)]
   exact h.zero k (by simpa using hk) hge
 · have e := h.eq
   have C := val_set O (i + j) ((a[i] * b[j] + O[i + j] + carry) % 18446744073709551616) hp
   have D := Nat.div_add_mod (a[i] * b[j] + O[i + j] + carry) 18446744073709551616
   have A : val (b.take (j + 1)) = val (b.take j) + 18446744073709551616 ^ j * b[j] := by
    rw [List.take_succ_eq_append_getElem hj, val_append, List.length_take, Nat.min_eq_left (by omega)]
    simp [val]
   rw [A]
   have B : a[i]?.getD 0 = a[i] := by simp [hi]
   rw [B] at e ⊢
   rw [show i + (j + 1) = i + j + 1 from rfl, Nat.pow_succ]
   rw [Nat.pow_add] at *
   generalize (a[i] * b[j] + O[i + j] + carry) / 18446744073709551616 = c2 at *
   generalize (a[i] * b[j] + O[i + j] + carry) % 18446744073709551616 = r2 at *
   generalize val (O.set (i + j) r2) = V at *
   grind
theorem Row1.last (h : Row1 a b i b.length O carry) (hi : i < a.length) : Row0 a b (i + 1) (O.set (i + b.length) carry) := by
 have A : i + b.length < O.length := by have := h.len; omega
 refine ⟨by simpa using h.len, small_set h.small _ _ h.word, ?_, ?_⟩
 · intro k hk hge
   rw [List.getElem_set_ne (by omega)]
   exact h.zero k (by simpa using hk) (by omega)
 · have e := h.eq
   have B := val_set O (i + b.length) carry A
   rw [h.zero _ A (Nat.le_refl _)] at B
   have C : val (a.take (i + 1)) = val (a.take i) + 18446744073709551616 ^ i * a[i] := by
    rw [List.take_succ_eq_append_getElem hi, val_append, List.length_take, Nat.min_eq_left (by omega)]
    simp [val]
   rw [List.take_length, show a[i]?.getD 0 = a[i] by simp [hi]] at e
   rw [C]
   grind
theorem Row0.done (h : Row0 a b a.length O) : val O = val a * val b := by have := h.eq; rwa [List.take_length] at this
theorem val_take_drop (l : List Nat) (k : Nat) : val (l.take k) + 18446744073709551616 ^ (l.take k).length * val (l.drop k) = val l := by
 rw [← val_append, List.take_append_drop]
theorem limbs_drop (n k : Nat) : (limbs n).drop k = limbs (n / 18446744073709551616 ^ k) := by
 induction k generalizing n with
 | zero => simp
 | succ k ih =>
   by_cases h : n = 0
   · subst h; simp [limbs_zero]
   · rw [limbs_step n h, List.drop_succ_cons, ih, Nat.div_div_eq_div_mul, Nat.pow_succ, Nat.mul_comm (18446744073709551616 ^ k)]
theorem val_limbs_take (n k : Nat) : val ((limbs n).take k) = n % 18446744073709551616 ^ k := by
 induction k generalizing n with
 | zero => simp [val, Nat.mod_one]
 | succ k ih =>
   by_cases h : n = 0
   · subst h; simp [limbs_zero, val]
   · rw [limbs_step n h, List.take_succ_cons, val, ih, Nat.pow_succ, Nat.mul_comm (18446744073709551616 ^ k), Nat.mod_mul]
theorem split_mul3 (x0 x1 y0 y1 B : Nat) : (x0 + x1) * (y0 + y1) - (x0 * y0 + x1 * y1) = x0 * y1 + x1 * y0 ∧ x0 * y0 + x1 * y1 ≤ (x0 + x1) * (y0 + y1) ∧
  x0 * y0 + (x0 * y1 + x1 * y0) * B + x1 * y1 * (B * B) = (x0 + B * x1) * (y0 + B * y1) := by
 have e : (x0 + x1) * (y0 + y1) = x0 * y0 + x1 * y1 + (x0 * y1 + x1 * y0) := by grind
 exact ⟨by omega, by omega, by grind⟩
structure DigI (yh yl u c q r : Nat) : Prop where
 bal : q * yh + r = u
 up : (u * 4294967296 + c) / (yh * 4294967296 + yl) ≤ q
 top : q ≤ 4294967297
theorem DigI.start (hu : u < yh * 4294967296 + yl) (hc : c < 4294967296) (hh : 2147483648 ≤ yh) (hl : yl < 4294967296) : DigI yh yl u c (u / yh) (u - u / yh * yh) := by
 have B := Nat.div_mul_le_self u yh
 refine ⟨by omega, ?_, ?_⟩
 · rw [Nat.le_div_iff_mul_le (by omega)]
   have A := Nat.div_mul_le_self (u * 4294967296 + c) (yh * 4294967296 + yl)
   generalize (u * 4294967296 + c) / (yh * 4294967296 + yl) = q at *
   rw [Nat.mul_add, ← Nat.mul_assoc] at A
   generalize q * yh = p at *
   generalize q * yl = s at *
   omega
 · have C : 4294967296 ≤ 2 * yh := by omega
   have e : yh * 4294967298 = yh * 4294967296 + yh * 2 := Nat.mul_add yh 4294967296 2
   have A : u < yh * 4294967298 := by
    rw [e]
    clear hh e B
    omega
   have := Nat.div_lt_of_lt_mul A
   omega
theorem DigI.done (h : DigI yh yl u c q r) (hh : 0 < yh) (h1 : q * yl ≤ 4294967296 * r + c) : q = (u * 4294967296 + c) / (yh * 4294967296 + yl) := by
 have A := h.bal
 have B := h.up
 have C : q ≤ (u * 4294967296 + c) / (yh * 4294967296 + yl) := by
  rw [Nat.le_div_iff_mul_le (by omega), Nat.mul_add, ← Nat.mul_assoc]
  generalize q * yh = p at *
  omega
 omega
theorem DigI.brk (h : DigI yh yl u c q r) (hh : 0 < yh) (hl : yl < 4294967296) (hq : q ≤ 4294967296) (hr : 4294967296 ≤ r) : q = (u * 4294967296 + c) / (yh * 4294967296 + yl) := by
 refine h.done hh ?_
 have := Nat.mul_le_mul hq (show yl ≤ 4294967295 by omega)
 omega
theorem DigI.next (h : DigI yh yl u c q r) (hu : u < yh * 4294967296 + yl) (hc : c < 4294967296) (hh : 0 < yh) (hg : 4294967296 ≤ q ∨ 4294967296 * r + c < q * yl) :
  0 < q ∧ DigI yh yl u c (q - 1) (r + yh) ∧ q - 1 ≤ 4294967296 := by
 have C := h.bal
 have F := h.up
 have G := h.top
 have A : (u * 4294967296 + c) / (yh * 4294967296 + yl) < q := by
  rcases hg with hg | hg
  · refine Nat.lt_of_lt_of_le ((Nat.div_lt_iff_lt_mul (by omega)).2 ?_) hg
    omega
  · rw [Nat.div_lt_iff_lt_mul (by omega), Nat.mul_add, ← Nat.mul_assoc]
    generalize q * yh = p at *
    omega
 have D : 0 < q := Nat.lt_of_le_of_lt (Nat.zero_le _) A
 have E : (u * 4294967296 + c) / (yh * 4294967296 + yl) ≤ q - 1 := Nat.le_sub_one_of_lt A
 refine ⟨D, ⟨?_, E, by omega⟩, by omega⟩
 obtain ⟨B, rfl⟩ : ∃ B, q = B + 1 := ⟨q - 1, by omega⟩
 rw [Nat.add_sub_cancel]
 rw [Nat.add_mul] at C
 omega
theorem DigI.fits (h : DigI yh yl u c q r) (hl : yl < 4294967296) (hc : c < 4294967296) (hr : r < 4294967296) : q * yl < 18446744073709551616 ∧ 4294967296 * r + c < 18446744073709551616 := by
 have := Nat.mul_le_mul h.top (show yl ≤ 4294967295 by omega)
 omega
theorem wrap_rest {a b : Nat} (h : a = b + r) (hr : r < 18446744073709551616) : (a % 18446744073709551616 + 18446744073709551616 - b % 18446744073709551616) % 18446744073709551616 = r := by omega
theorem dig_rest (hy : y < 18446744073709551616) (hy0 : 0 < y) (hq : q = (u * 4294967296 + c) / y) :
  ((u * 4294967296 % 18446744073709551616 + c) % 18446744073709551616 + 18446744073709551616 - q * y % 18446744073709551616) % 18446744073709551616 = (u * 4294967296 + c) % y := by
 have A := Nat.div_add_mod (u * 4294967296 + c) y
 have B := Nat.mod_lt (u * 4294967296 + c) hy0
 rw [← hq, Nat.mul_comm y q] at A
 rw [Nat.mod_add_mod]
 exact wrap_rest A.symm (Nat.lt_trans B hy)
theorem two_eq {a b : Nat} (W : Nat) (hW : W = a * 18446744073709551616 + b) : W = (a * 4294967296 + b / 4294967296) * 4294967296 + b % 4294967296 := by
 have h := Nat.div_add_mod b 4294967296
 rw [Nat.add_mul, Nat.mul_assoc, Nat.add_assoc, Nat.mul_comm (b / 4294967296), h, hW]
theorem two_digs {U a b : Nat} (hy : 0 < y) (hU : U = a * 18446744073709551616 + b) :
  U / y = (a * 4294967296 + b / 4294967296) / y * 4294967296 + ((a * 4294967296 + b / 4294967296) % y * 4294967296 + b % 4294967296) / y ∧
  U % y = ((a * 4294967296 + b / 4294967296) % y * 4294967296 + b % 4294967296) % y := by
 have e := two_eq U hU
 obtain ⟨p, C⟩ : ∃ p, p = a * 4294967296 + b / 4294967296 := ⟨_, rfl⟩
 obtain ⟨d, D⟩ : ∃ d, d = b % 4294967296 := ⟨_, rfl⟩
 rw [← C, ← D] at e ⊢
 have A := Nat.div_add_mod p y
 obtain ⟨s, E⟩ : ∃ s, s = p % y := ⟨_, rfl⟩
 obtain ⟨t, F⟩ : ∃ t, t = p / y := ⟨_, rfl⟩
 rw [← E, ← F] at A ⊢
 have B : p * 4294967296 + d = s * 4294967296 + d + t * 4294967296 * y := by
  rw [← A]
  grind
 rw [e, B]
 exact ⟨by rw [Nat.add_mul_div_right _ _ hy, Nat.add_comm], by rw [Nat.add_mul_mod_self_right]⟩
end Go.Proofs.YtdncgncijbnjpaaGreat
