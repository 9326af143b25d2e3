/- Products limb by limb, and by splitting: plain facts. No conditions. -/
set_option linter.unusedVariables false
set_option linter.unusedSimpArgs false
set_option maxRecDepth 100000
set_option maxHeartbeats 40000000

namespace Go.Proofs.YtcheajjjdbllfaaGreat
variable {O a b m : List Nat} {c carry i j o q r u x y yh yl : Nat}
def val : List Nat → Nat
 | [] => 0
 | x :: l => x + 18446744073709551616 * val l
def Small (l : List Nat) : Prop := ∀ x ∈ l, x < 18446744073709551616
def good : List Nat → Bool
 | [] => true
 | [x] => x != 0
 | _ :: y :: l => good (y :: l)
def limbsF : Nat → Nat → List Nat
 | 0, _ => []
 | f + 1, n => if n = 0 then [] else n % 18446744073709551616 :: limbsF f (n / 18446744073709551616)
def limbs (n : Nat) : List Nat := limbsF n n
theorem limbsF_fuel : ∀ (f g n : Nat), n ≤ f → n ≤ g → limbsF f n = limbsF g n := by
 intro f
 induction f with
 | zero =>
   intro g n hf hg
   obtain rfl : n = 0 := by omega
   cases g <;> simp [limbsF]
 | succ f ih =>
   intro g n hf hg
   cases g with
   | zero =>
     obtain rfl : n = 0 := by omega
     simp [limbsF]
   | succ g =>
     simp only [limbsF]
     by_cases h : n = 0
     · simp [h]
     · rw [if_neg h, if_neg h, ih g (n / 18446744073709551616) (by omega) (by omega)]
theorem limbs_zero : limbs 0 = [] := rfl
theorem limbs_step (n : Nat) (h : n ≠ 0) : limbs n = n % 18446744073709551616 :: limbs (n / 18446744073709551616) := by
 obtain ⟨m, rfl⟩ : ∃ m, n = m + 1 := ⟨n - 1, by omega⟩
 unfold limbs
 rw [limbsF, if_neg h, limbsF_fuel m ((m + 1) / 18446744073709551616) _ (by omega) (Nat.le_refl _)]
theorem limbs_ind {P : Nat → Prop} (h0 : P 0) (h1 : ∀ n, n ≠ 0 → P (n / 18446744073709551616) → P n) (n : Nat) : P n := by
 induction n using Nat.strongRecOn with
 | ind n ih =>
   by_cases h : n = 0
   · subst h; exact h0
   · exact h1 n h (ih _ (by omega))
theorem val_limbs (n : Nat) : val (limbs n) = n := by
 induction n using limbs_ind with
 | h0 => rfl
 | h1 n h ih => rw [limbs_step n h, val, ih]; omega
theorem small_limbs (n : Nat) : Small (limbs n) := by
 induction n using limbs_ind with
 | h0 => intro x hx; simp [limbs_zero] at hx
 | h1 n h ih =>
   rw [limbs_step n h]
   intro x hx
   rcases List.mem_cons.1 hx with rfl | hx
   · omega
   · exact ih x hx
theorem limbs_eq_nil {n : Nat} : limbs n = [] ↔ n = 0 := by
 constructor
 · intro h
   have := val_limbs n
   rw [h] at this
   simpa [val] using this.symm
 · rintro rfl; rfl
theorem good_limbs (n : Nat) : good (limbs n) = true := by
 induction n using limbs_ind with
 | h0 => rfl
 | h1 n h ih =>
   rw [limbs_step n h]
   by_cases h2 : n / 18446744073709551616 = 0
   · rw [h2, limbs_zero]
     simp only [good, bne_iff_ne]
     omega
   · rw [limbs_step _ h2] at ih ⊢
     exact ih
theorem Small.tail {l : List Nat} (h : Small (x :: l)) : Small l := fun y hy => h y (List.mem_cons_of_mem _ hy)
theorem Small.head {l : List Nat} (h : Small (x :: l)) : x < 18446744073709551616 := h x List.mem_cons_self
theorem Small.nil : Small [] := fun x hx => by cases hx
theorem Small.cons {l : List Nat} (h : x < 18446744073709551616) (hl : Small l) : Small (x :: l) := fun y hy => by
 rcases List.mem_cons.1 hy with rfl | hy
 · exact h
 · exact hl y hy
theorem Small.append {l : List Nat} (h : Small l) (hm : Small m) : Small (l ++ m) := fun y hy => by
 rcases List.mem_append.1 hy with hy | hy
 · exact h y hy
 · exact hm y hy
theorem Small.left {l : List Nat} (h : Small (l ++ m)) : Small l := fun y hy => h y (List.mem_append_left _ hy)
theorem Small.right {l : List Nat} (h : Small (l ++ m)) : Small m := fun y hy => h y (List.mem_append_right _ hy)
theorem Small.take {l : List Nat} (h : Small l) (n : Nat) : Small (l.take n) := fun y hy => h y (List.mem_of_mem_take hy)
theorem Small.drop {l : List Nat} (h : Small l) (n : Nat) : Small (l.drop n) := fun y hy => h y (List.mem_of_mem_drop hy)
theorem Small.get {l : List Nat} (h : Small l) (hj : j < l.length) : l[j] < 18446744073709551616 := h _ (List.getElem_mem hj)
theorem Small.getD {l : List Nat} (h : Small l) (j : Nat) : l[j]?.getD 0 < 18446744073709551616 := by
 by_cases hj : j < l.length
 · simpa [List.getElem?_eq_getElem hj] using h.get hj
 · simp [List.getElem?_eq_none (Nat.le_of_not_lt hj)]
theorem Small.replicate0 (n : Nat) : Small (List.replicate n 0) := fun y hy => by
 have := List.eq_of_mem_replicate hy
 omega
theorem limbs_val : ∀ (l : List Nat), Small l → good l = true → limbs (val l) = l
 | [], _, _ => rfl
 | [x], hs, hg => by
   have hx : x ≠ 0 := by simpa [good] using hg
   have h1 := hs.head
   have hv : val [x] = x := by simp [val]
   rw [hv, limbs_step x hx, Nat.mod_eq_of_lt h1, Nat.div_eq_of_lt h1, limbs_zero]
 | x :: y :: l, hs, hg => by
   have ih := limbs_val (y :: l) hs.tail hg
   have h1 := hs.head
   have hv : val (x :: y :: l) = x + 18446744073709551616 * val (y :: l) := rfl
   have hne : val (y :: l) ≠ 0 := by
    intro h0
    rw [h0, limbs_zero] at ih
    cases ih
   rw [hv, limbs_step _ (by omega)]
   have e1 : (x + 18446744073709551616 * val (y :: l)) % 18446744073709551616 = x := by omega
   have e2 : (x + 18446744073709551616 * val (y :: l)) / 18446744073709551616 = val (y :: l) := by omega
   rw [e1, e2, ih]
theorem val_append (l m : List Nat) : val (l ++ m) = val l + 18446744073709551616 ^ l.length * val m := by
 induction l with
 | nil => simp [val]
 | cons x l ih =>
   rw [List.cons_append, val, val, ih, List.length_cons, Nat.pow_succ]
   grind
theorem val_lt {l : List Nat} (h : Small l) : val l < 18446744073709551616 ^ l.length := by
 induction l with
 | nil => simp [val]
 | cons x l ih =>
   have h1 := h.head
   have h2 := ih h.tail
   rw [val, List.length_cons, Nat.pow_succ, Nat.mul_comm]
   omega
theorem val_replicate0 (n : Nat) : val (List.replicate n 0) = 0 := by
 induction n with
 | zero => rfl
 | succ n ih => rw [List.replicate_succ, val, ih]
theorem good_snoc (l : List Nat) (x : Nat) : good (l ++ [x]) = (x != 0) := by
 induction l with
 | nil => rfl
 | cons y l ih =>
   cases l with
   | nil => rfl
   | cons z l => exact ih
theorem good_last {l : List Nat} (h : 0 < l.length) : good l = (l[l.length - 1] != 0) := by
 obtain ⟨m, x, rfl⟩ : ∃ m x, l = m ++ [x] := ⟨l.dropLast, l.getLast (by intro e; subst e; simp at h), (List.dropLast_concat_getLast _).symm⟩
 rw [good_snoc]
 simp
def trimL : List Nat → List Nat
 | [] => []
 | x :: l => match trimL l with
   | [] => if x = 0 then [] else [x]
   | y :: m => x :: y :: m
theorem trimL_spec : ∀ (l : List Nat), Small l → trimL l = limbs (val l)
 | [], _ => rfl
 | x :: l, h => by
   have ih := trimL_spec l h.tail
   have h1 := h.head
   rw [trimL, ih, val]
   by_cases hv : val l = 0
   · rw [hv, limbs_zero]
     by_cases hx : x = 0
     · simp [hx, limbs_zero]
     · rw [limbs_step _ (by omega)]
       have e1 : (x + 18446744073709551616 * 0) % 18446744073709551616 = x := by omega
       have e2 : (x + 18446744073709551616 * 0) / 18446744073709551616 = 0 := by omega
       rw [e1, e2, limbs_zero]
       simp [hx]
   · have e1 : (x + 18446744073709551616 * val l) % 18446744073709551616 = x := by omega
     have e2 : (x + 18446744073709551616 * val l) / 18446744073709551616 = val l := by omega
     rw [limbs_step (x + 18446744073709551616 * val l) (by omega), e1, e2, limbs_step _ hv]
theorem len_limbs_le {n k : Nat} (h : n < 18446744073709551616 ^ k) : (limbs n).length ≤ k := by
 induction k generalizing n with
 | zero =>
   obtain rfl : n = 0 := by simpa using h
   simp [limbs_zero]
 | succ k ih =>
   by_cases hn : n = 0
   · subst hn; simp [limbs_zero]
   · rw [limbs_step n hn, List.length_cons]
     have : n / 18446744073709551616 < 18446744073709551616 ^ k := by
      rw [Nat.div_lt_iff_lt_mul (by omega), ← Nat.pow_succ]
      exact h
     have := ih this
     omega
theorem lt_pow_len (n : Nat) : n < 18446744073709551616 ^ (limbs n).length := by
 have := val_lt (small_limbs n)
 rwa [val_limbs] at this
theorem len_mono {m n : Nat} (h : m ≤ n) : (limbs m).length ≤ (limbs n).length :=
 len_limbs_le (Nat.lt_of_le_of_lt h (lt_pow_len n))
theorem len_val_le {l : List Nat} (h : Small l) : (limbs (val l)).length ≤ l.length := len_limbs_le (val_lt h)
theorem pow_le_len {n : Nat} (h : n ≠ 0) : 18446744073709551616 ^ ((limbs n).length - 1) ≤ n := by
 rcases Nat.lt_or_ge n (18446744073709551616 ^ ((limbs n).length - 1)) with h1 | h1
 · have h2 := len_limbs_le h1
   have h3 : (limbs n).length ≠ 0 := fun e => h (limbs_eq_nil.1 (List.length_eq_zero_iff.1 e))
   omega
 · exact h1
theorem val_set (l : List Nat) (p v : Nat) (hp : p < l.length) : val (l.set p v) + 18446744073709551616 ^ p * l[p] = val l + 18446744073709551616 ^ p * v := by
 induction l generalizing p with
 | nil => simp at hp
 | cons x l ih =>
   cases p with
   | zero => simp [val]; omega
   | succ p =>
     have := ih p (by simpa using hp)
     simp only [List.set_cons_succ, val, List.getElem_cons_succ, Nat.pow_succ]
     have e := congrArg (fun t => 18446744073709551616 * t) this
     grind
theorem small_set {l : List Nat} (h : Small l) (p v : Nat) (hv : v < 18446744073709551616) : Small (l.set p v) := fun x hx => by
 rcases List.mem_or_eq_of_mem_set hx with h1 | h1
 · exact h x h1
 · omega
structure Row1 (a b : List Nat) (i j : Nat) (O : List Nat) (carry : Nat) : Prop where
 len : O.length = a.length + b.length
 small : Small O
 word : carry < 18446744073709551616
 zero : ∀ k (h : k < O.length), i + b.length ≤ k → O[k] = 0
 eq : val O + 18446744073709551616 ^ (i + j) * carry = val (a.take i) * val b + 18446744073709551616 ^ i * (a[i]?.getD 0 * val (b.take j))
structure Row0 (a b : List Nat) (i : Nat) (O : List Nat) : Prop where
 len : O.length = a.length + b.length
 small : Small O
 zero : ∀ k (h : k < O.length), i + b.length ≤ k → O[k] = 0
 eq : val O = val (a.take i) * val b
theorem Row0.start (a b : List Nat) : Row0 a b 0 (List.replicate (a.length + b.length) 0) :=
 ⟨by simp, Small.replicate0 _, fun k h _ => by simp, by rw [val_replicate0]; simp [val]⟩
theorem Row0.first (h : Row0 a b i O) : Row1 a b i 0 O 0 := ⟨h.len, h.small, by omega, h.zero, by rw [h.eq]; simp [val]⟩
theorem mul_lt_W (hx : x < 18446744073709551616) (hy : y < 18446744073709551616) : x * y ≤ 18446744073709551615 * 18446744073709551615 := Nat.mul_le_mul (by omega) (by omega)
theorem step_limbs (hx : x < 18446744073709551616) (hy : y < 18446744073709551616) (ho : o < 18446744073709551616) (hc : c < 18446744073709551616) :
  ((x * y % 18446744073709551616 + o) % 18446744073709551616 + c) % 18446744073709551616 = (x * y + o + c) % 18446744073709551616 ∧
  x * y / 18446744073709551616 + (x * y % 18446744073709551616 + o) / 18446744073709551616 + ((x * y % 18446744073709551616 + o) % 18446744073709551616 + c) / 18446744073709551616 = (x * y + o + c) / 18446744073709551616 ∧
  (x * y + o + c) / 18446744073709551616 < 18446744073709551616 := by
 have h := mul_lt_W hx hy
 generalize x * y = p at *
 omega
theorem Row1.step (h : Row1 a b i j O carry) (hi : i < a.length) (hj : j < b.length) (ha : Small a) (hb : Small b) :
  ∃ hp : i + j < O.length, Row1 a b i (j + 1) (O.set (i + j) ((a[i] * b[j] + O[i + j] + carry) % 18446744073709551616)) ((a[i] * b[j] + O[i + j] + carry) / 18446744073709551616) := by
 have hp : i + j < O.length := by have := h.len; omega
 refine ⟨hp, ⟨by simpa using h.len, small_set h.small _ _ (Nat.mod_lt _ (by omega)), ?_, ?_, ?_⟩⟩
 · exact (step_limbs (ha.get hi) (hb.get hj) (h.small.get hp) h.word).2.2
 · intro k hk hge
   rw [List.getElem_set_ne (by omega)]
   exact h.zero k (by simpa using hk) hge
 · have e := h.eq
   have hs := val_set O (i + j) ((a[i] * b[j] + O[i + j] + carry) % 18446744073709551616) hp
   have hd := Nat.div_add_mod (a[i] * b[j] + O[i + j] + carry) 18446744073709551616
   have ht : val (b.take (j + 1)) = val (b.take j) + 18446744073709551616 ^ j * b[j] := by
    rw [List.take_succ_eq_append_getElem hj, val_append, List.length_take, Nat.min_eq_left (by omega)]
    simp [val]
   rw [ht]
   have hai : a[i]?.getD 0 = a[i] := by simp [hi]
   rw [hai] at e ⊢
   rw [show i + (j + 1) = i + j + 1 from rfl, Nat.pow_succ]
   rw [Nat.pow_add] at *
   generalize (a[i] * b[j] + O[i + j] + carry) / 18446744073709551616 = c2 at *
   generalize (a[i] * b[j] + O[i + j] + carry) % 18446744073709551616 = r2 at *
   generalize val (O.set (i + j) r2) = V at *
   grind
theorem Row1.last (h : Row1 a b i b.length O carry) (hi : i < a.length) : Row0 a b (i + 1) (O.set (i + b.length) carry) := by
 have hp : i + b.length < O.length := by have := h.len; omega
 refine ⟨by simpa using h.len, small_set h.small _ _ h.word, ?_, ?_⟩
 · intro k hk hge
   rw [List.getElem_set_ne (by omega)]
   exact h.zero k (by simpa using hk) (by omega)
 · have e := h.eq
   have hs := val_set O (i + b.length) carry hp
   rw [h.zero _ hp (Nat.le_refl _)] at hs
   have ht : val (a.take (i + 1)) = val (a.take i) + 18446744073709551616 ^ i * a[i] := by
    rw [List.take_succ_eq_append_getElem hi, val_append, List.length_take, Nat.min_eq_left (by omega)]
    simp [val]
   rw [List.take_length, show a[i]?.getD 0 = a[i] by simp [hi]] at e
   rw [ht]
   grind
theorem Row0.done (h : Row0 a b a.length O) : val O = val a * val b := by have := h.eq; rwa [List.take_length] at this
theorem val_take_drop (l : List Nat) (k : Nat) : val (l.take k) + 18446744073709551616 ^ (l.take k).length * val (l.drop k) = val l := by
 rw [← val_append, List.take_append_drop]
structure DigI (yh yl u c q r : Nat) : Prop where
 bal : q * yh + r = u
 up : (u * 4294967296 + c) / (yh * 4294967296 + yl) ≤ q
 top : q ≤ 4294967297
theorem DigI.start (hu : u < yh * 4294967296 + yl) (hc : c < 4294967296) (hh : 2147483648 ≤ yh) (hl : yl < 4294967296) : DigI yh yl u c (u / yh) (u - u / yh * yh) := by
 have h1 := Nat.div_mul_le_self u yh
 refine ⟨by omega, ?_, ?_⟩
 · rw [Nat.le_div_iff_mul_le (by omega)]
   have h2 := Nat.div_mul_le_self (u * 4294967296 + c) (yh * 4294967296 + yl)
   generalize (u * 4294967296 + c) / (yh * 4294967296 + yl) = q at *
   rw [Nat.mul_add, ← Nat.mul_assoc] at h2
   generalize q * yh = p at *
   generalize q * yl = s at *
   omega
 · have hh2 : 4294967296 ≤ 2 * yh := by omega
   have e : yh * 4294967298 = yh * 4294967296 + yh * 2 := Nat.mul_add yh 4294967296 2
   have h2 : u < yh * 4294967298 := by
    rw [e]
    clear hh e h1
    omega
   have := Nat.div_lt_of_lt_mul h2
   omega
theorem DigI.done (h : DigI yh yl u c q r) (hh : 0 < yh) (h1 : q * yl ≤ 4294967296 * r + c) : q = (u * 4294967296 + c) / (yh * 4294967296 + yl) := by
 have h2 := h.bal
 have h3 := h.up
 have h4 : q ≤ (u * 4294967296 + c) / (yh * 4294967296 + yl) := by
  rw [Nat.le_div_iff_mul_le (by omega), Nat.mul_add, ← Nat.mul_assoc]
  generalize q * yh = p at *
  omega
 omega
theorem DigI.brk (h : DigI yh yl u c q r) (hh : 0 < yh) (hl : yl < 4294967296) (hq : q ≤ 4294967296) (hr : 4294967296 ≤ r) : q = (u * 4294967296 + c) / (yh * 4294967296 + yl) := by
 refine h.done hh ?_
 have := Nat.mul_le_mul hq (show yl ≤ 4294967295 by omega)
 omega
theorem DigI.next (h : DigI yh yl u c q r) (hu : u < yh * 4294967296 + yl) (hc : c < 4294967296) (hh : 0 < yh) (hg : 4294967296 ≤ q ∨ 4294967296 * r + c < q * yl) :
  0 < q ∧ DigI yh yl u c (q - 1) (r + yh) ∧ q - 1 ≤ 4294967296 := by
 have h2 := h.bal
 have h3 := h.up
 have h4 := h.top
 have h5 : (u * 4294967296 + c) / (yh * 4294967296 + yl) < q := by
  rcases hg with hg | hg
  · refine Nat.lt_of_lt_of_le ((Nat.div_lt_iff_lt_mul (by omega)).2 ?_) hg
    omega
  · rw [Nat.div_lt_iff_lt_mul (by omega), Nat.mul_add, ← Nat.mul_assoc]
    generalize q * yh = p at *
    omega
 have h6 : 0 < q := Nat.lt_of_le_of_lt (Nat.zero_le _) h5
 have h7 : (u * 4294967296 + c) / (yh * 4294967296 + yl) ≤ q - 1 := Nat.le_sub_one_of_lt h5
 refine ⟨h6, ⟨?_, h7, by omega⟩, by omega⟩
 obtain ⟨q', rfl⟩ : ∃ q', q = q' + 1 := ⟨q - 1, by omega⟩
 rw [Nat.add_sub_cancel]
 rw [Nat.add_mul] at h2
 omega
theorem DigI.fits (h : DigI yh yl u c q r) (hl : yl < 4294967296) (hc : c < 4294967296) (hr : r < 4294967296) : q * yl < 18446744073709551616 ∧ 4294967296 * r + c < 18446744073709551616 := by
 have := Nat.mul_le_mul h.top (show yl ≤ 4294967295 by omega)
 omega
theorem wrap_rest {a b : Nat} (h : a = b + r) (hr : r < 18446744073709551616) : (a % 18446744073709551616 + 18446744073709551616 - b % 18446744073709551616) % 18446744073709551616 = r := by omega
theorem dig_rest (hy : y < 18446744073709551616) (hy0 : 0 < y) (hq : q = (u * 4294967296 + c) / y) :
  ((u * 4294967296 % 18446744073709551616 + c) % 18446744073709551616 + 18446744073709551616 - q * y % 18446744073709551616) % 18446744073709551616 = (u * 4294967296 + c) % y := by
 have h1 := Nat.div_add_mod (u * 4294967296 + c) y
 have h2 := Nat.mod_lt (u * 4294967296 + c) hy0
 rw [← hq, Nat.mul_comm y q] at h1
 rw [Nat.mod_add_mod]
 exact wrap_rest h1.symm (Nat.lt_trans h2 hy)
theorem two_eq {a b : Nat} (W : Nat) (hW : W = a * 18446744073709551616 + b) : W = (a * 4294967296 + b / 4294967296) * 4294967296 + b % 4294967296 := by
 have h := Nat.div_add_mod b 4294967296
 rw [Nat.add_mul, Nat.mul_assoc, Nat.add_assoc, Nat.mul_comm (b / 4294967296), h, hW]
theorem two_digs {U a b : Nat} (hy : 0 < y) (hU : U = a * 18446744073709551616 + b) :
  U / y = (a * 4294967296 + b / 4294967296) / y * 4294967296 + ((a * 4294967296 + b / 4294967296) % y * 4294967296 + b % 4294967296) / y ∧
  U % y = ((a * 4294967296 + b / 4294967296) % y * 4294967296 + b % 4294967296) % y := by
 have e := two_eq U hU
 obtain ⟨p, hp⟩ : ∃ p, p = a * 4294967296 + b / 4294967296 := ⟨_, rfl⟩
 obtain ⟨d, hd⟩ : ∃ d, d = b % 4294967296 := ⟨_, rfl⟩
 rw [← hp, ← hd] at e ⊢
 have h1 := Nat.div_add_mod p y
 obtain ⟨s, hs⟩ : ∃ s, s = p % y := ⟨_, rfl⟩
 obtain ⟨t, ht⟩ : ∃ t, t = p / y := ⟨_, rfl⟩
 rw [← hs, ← ht] at h1 ⊢
 have e2 : p * 4294967296 + d = s * 4294967296 + d + t * 4294967296 * y := by
  rw [← h1]
  grind
 rw [e, e2]
 exact ⟨by rw [Nat.add_mul_div_right _ _ hy, Nat.add_comm], by rw [Nat.add_mul_mod_self_right]⟩
def valH : List Nat → Nat
 | [] => 0
 | x :: l => x + 4294967296 * valH l
def SmallH (l : List Nat) : Prop := ∀ x ∈ l, x < 4294967296
theorem SmallH.get {l : List Nat} (h : SmallH l) (hi : i < l.length) : l[i] < 4294967296 := h _ (List.getElem_mem hi)
theorem SmallH.replicate0 (n : Nat) : SmallH (List.replicate n 0) := fun x hx => by
 have := List.eq_of_mem_replicate hx
 omega
theorem valH_replicate0 (n : Nat) : valH (List.replicate n 0) = 0 := by
 induction n with
 | zero => rfl
 | succ n ih => rw [List.replicate_succ, valH, ih]
theorem valH_append (l r : List Nat) : valH (l ++ r) = valH l + 4294967296 ^ l.length * valH r := by
 induction l with
 | nil => simp [valH]
 | cons x l ih =>
   rw [List.cons_append, valH, valH, ih, List.length_cons, Nat.pow_succ]
   grind
theorem valH_set (l : List Nat) (p v : Nat) (hp : p < l.length) : valH (l.set p v) + 4294967296 ^ p * l[p] = valH l + 4294967296 ^ p * v := by
 induction l generalizing p with
 | nil => simp at hp
 | cons x l ih =>
   cases p with
   | zero => simp [valH]; omega
   | succ p =>
     have := ih p (by simpa using hp)
     simp only [List.set_cons_succ, valH, List.getElem_cons_succ, Nat.pow_succ]
     have e := congrArg (fun t => 4294967296 * t) this
     grind
theorem smallH_set {l : List Nat} (h : SmallH l) (p v : Nat) (hv : v < 4294967296) : SmallH (l.set p v) := fun x hx => by
 rcases List.mem_or_eq_of_mem_set hx with h1 | h1
 · exact h x h1
 · omega
structure RowH1 (a b : List Nat) (i j : Nat) (O : List Nat) (carry : Nat) : Prop where
 len : O.length = a.length + b.length
 small : SmallH O
 word : carry < 4294967296
 zero : ∀ k (h : k < O.length), i + b.length ≤ k → O[k] = 0
 eq : valH O + 4294967296 ^ (i + j) * carry = valH (a.take i) * valH b + 4294967296 ^ i * (a[i]?.getD 0 * valH (b.take j))
structure RowH0 (a b : List Nat) (i : Nat) (O : List Nat) : Prop where
 len : O.length = a.length + b.length
 small : SmallH O
 zero : ∀ k (h : k < O.length), i + b.length ≤ k → O[k] = 0
 eq : valH O = valH (a.take i) * valH b
theorem RowH0.start (a b : List Nat) : RowH0 a b 0 (List.replicate (a.length + b.length) 0) :=
 ⟨by simp, SmallH.replicate0 _, fun k h _ => by simp, by rw [valH_replicate0]; simp [valH]⟩
theorem RowH0.first (h : RowH0 a b i O) : RowH1 a b i 0 O 0 := ⟨h.len, h.small, by omega, h.zero, by rw [h.eq]; simp [valH]⟩
theorem mul_lt_H (hx : x < 4294967296) (hy : y < 4294967296) : x * y ≤ 4294967295 * 4294967295 := Nat.mul_le_mul (by omega) (by omega)
theorem step_half (hx : x < 4294967296) (hy : y < 4294967296) (ho : o < 4294967296) (hc : c < 4294967296) : x * y + o + c < 18446744073709551616 ∧ (x * y + o + c) / 4294967296 < 4294967296 := by
 have h := mul_lt_H hx hy
 generalize x * y = p at *
 omega
theorem RowH1.step (h : RowH1 a b i j O carry) (hi : i < a.length) (hj : j < b.length) (ha : SmallH a) (hb : SmallH b) :
  ∃ hp : i + j < O.length, RowH1 a b i (j + 1) (O.set (i + j) ((a[i] * b[j] + O[i + j] + carry) % 4294967296)) ((a[i] * b[j] + O[i + j] + carry) / 4294967296) := by
 have hp : i + j < O.length := by have := h.len; omega
 refine ⟨hp, ⟨by simpa using h.len, smallH_set h.small _ _ (Nat.mod_lt _ (by omega)), ?_, ?_, ?_⟩⟩
 · exact (step_half (ha.get hi) (hb.get hj) (h.small.get hp) h.word).2
 · intro k hk hge
   rw [List.getElem_set_ne (by omega)]
   exact h.zero k (by simpa using hk) hge
 · have e := h.eq
   have hs := valH_set O (i + j) ((a[i] * b[j] + O[i + j] + carry) % 4294967296) hp
   have hd := Nat.div_add_mod (a[i] * b[j] + O[i + j] + carry) 4294967296
   have ht : valH (b.take (j + 1)) = valH (b.take j) + 4294967296 ^ j * b[j] := by
    rw [List.take_succ_eq_append_getElem hj, valH_append, List.length_take, Nat.min_eq_left (by omega)]
    simp [valH]
   rw [ht]
   have hai : a[i]?.getD 0 = a[i] := by simp [hi]
   rw [hai] at e ⊢
   rw [show i + (j + 1) = i + j + 1 from rfl, Nat.pow_succ]
   rw [Nat.pow_add] at *
   generalize (a[i] * b[j] + O[i + j] + carry) / 4294967296 = c2 at *
   generalize (a[i] * b[j] + O[i + j] + carry) % 4294967296 = r2 at *
   generalize valH (O.set (i + j) r2) = V at *
   grind
theorem RowH1.last (h : RowH1 a b i b.length O carry) (hi : i < a.length) : RowH0 a b (i + 1) (O.set (i + b.length) carry) := by
 have hp : i + b.length < O.length := by have := h.len; omega
 refine ⟨by simpa using h.len, smallH_set h.small _ _ h.word, ?_, ?_⟩
 · intro k hk hge
   rw [List.getElem_set_ne (by omega)]
   exact h.zero k (by simpa using hk) (by omega)
 · have e := h.eq
   have hs := valH_set O (i + b.length) carry hp
   rw [h.zero _ hp (Nat.le_refl _)] at hs
   have ht : valH (a.take (i + 1)) = valH (a.take i) + 4294967296 ^ i * a[i] := by
    rw [List.take_succ_eq_append_getElem hi, valH_append, List.length_take, Nat.min_eq_left (by omega)]
    simp [valH]
   rw [List.take_length, show a[i]?.getD 0 = a[i] by simp [hi]] at e
   rw [ht]
   grind
theorem RowH0.done (h : RowH0 a b a.length O) : valH O = valH a * valH b := by have := h.eq; rwa [List.take_length] at this
end Go.Proofs.YtcheajjjdbllfaaGreat
