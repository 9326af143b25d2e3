/-
  gcd.Text: the numeral of a number, or the error. The one premise: the table of powers of ten reads as it is laid.
-/
import Derived.Test.YtceenaegchlbcaaGreatDoorEDigB
import Derived.Test.YtceenaegchlbcaaGreatDoorERatB
namespace Go.Proofs.YtceenaegchlbcaaGreatDoor
open Go.RowKit
set_option linter.unusedVariables false
set_option linter.unusedSimpArgs false

theorem given_one {w : World} {Z : Zone} {A : Option Addr} {c : Nat} {l : List Nat} {ty : TypeId} (ha : U64s w Z A c l) :
    Given (w.alloc (.cells #[.slice A l.length c] ty)) w.heap.size [l] := fun j hj => by
  have hal : Below w.heap.size w (w.alloc (.cells #[.slice A l.length c] ty)) := (Below.refl _ _).alloc (Nat.le_refl _) _
  match j, hj with
  | 0, _ => exact ⟨A, c, cell_newest rfl rfl, (ha.below hal).mono (le_old _)⟩

theorem builderAt_below {T e : TypeId} {B b : Nat} {p : Value} {bs : List Value} {w w' : World} (h : Lib.BuilderAtF T e B b p bs w) (hb : Below w.heap.size w w') : Lib.BuilderAtF T e B b p bs w' := by
  have hlt := h.lt
  obtain ⟨hB, v, hh, hown, hne⟩ := h
  refine ⟨hB, v, (hb.block b hlt).trans hh, ⟨hown.1, ?_⟩, hne⟩
  rcases hown.2 with h1 | ⟨g, cap, cur, fz, e1, hg, hgg, hr⟩
  · exact .inl h1
  · exact .inr ⟨g, cap, cur, fz, e1, hg, (hb.block g (Array.getElem?_eq_some_iff.1 hgg).1).trans hgg, hr⟩
theorem builder_below {T e : TypeId} {B b : Nat} {bs : List Value} {w w' : World} (h : Lib.IsBuilderF T e B b bs w) (hb : Below w.heap.size w w') : Lib.IsBuilderF T e B b bs w' :=
  h.elim (fun x => .inl (builderAt_below x hb)) (fun x => .inr (builderAt_below x hb))

theorem own_under {w w' : World} {base : Nat} {e : TypeId} {size : Nat} {v : Value} {n : Nat} {xs : List Value} (h : w.ownsRow base e size v n xs) (hb : Below w.heap.size w w') : w'.ownsRow base e size v n xs := by
  refine ⟨h.1, ?_⟩
  rcases h.2 with h1 | ⟨g, cap, cur, e1, hg, hh, hr⟩
  · exact .inl h1
  · exact .inr ⟨g, cap, cur, e1, hg, (hb.block g (Array.getElem?_eq_some_iff.1 hh).1).trans hh, hr⟩

/-- 'append(s, x)', s a row of strings of the call's own. -/
theorem wpList_appS {P : Program} (w : World) {ops : Array Oper} {rest : List Oper} {o : Oper} {a : Act} {Q : Exit → Act → World → Prop} (hgd : o.guard = none) (s x : Operand) (t : TypeId)
    (ho : o.op = .call { callee := .builtin .append, args := #[s, x], argTypes := #[t, t] })
    (base : Nat) (e : TypeId) (i : TypeInfo) (z : Value) (ht : P.underlying t = some (.slice e)) (hi : P.info? e = some i) (hz : i.zero = some z) (hsize : i.size = 1) (hby : i.bytes = 16) (hzs : z.cells.size = 1)
    (v : Value) (n : Nat) (xs : List Value) (hs : a.eval s = v) (hown : w.ownsRow base e 1 v n xs)
    (g : Nat) (u1 : Value) (hx : a.eval x = .slice (some ⟨g, 0, none⟩) 1 1) (hu : w.cell? ⟨g, 0, none⟩ = some u1) (h1 : u1.oneCell' = true)
    (hb : n + 1 ≤ 1000000000) (hbase : base ≤ w.heap.size)
    (h : ∀ v' w', w'.ownsRow base e 1 v' (n + 1) (xs ++ [u1]) → w.grownBy w' v.ownBlock → wpList P ops Q rest (a.put o.dst v') w') : wpList P ops Q (o :: rest) a w := by
  refine wpList_append_own w hgd s x t ho base e i z 1 16 ht hi hz hsize hby hzs (by omega) v n xs hs hown ⟨g, 0, none⟩ 1 1 [u1] hx rfl ?_ ?_ (by simp only [maxLen]; omega) (by omega) hbase (fun v' w' h2 h3 _ => h v' w' h2 h3)
  · intro j y hy
    match j, hy with
    | 0, hy => cases hy; exact hu
  · intro y hy
    rw [List.mem_singleton] at hy
    rcases hy with rfl
    exact h1

theorem infoS : (Tryz.prog.info? 9).map (fun i => (i.zero, i.size, i.bytes)) = some (some (.string ⟨#[]⟩), 1, 16) := by kernel_rfl

/-- A string of these bytes. -/
abbrev strV (l : List UInt8) : Value := .string ⟨l.toArray⟩

/-- What Text answers: an error, or none; and a text. -/
def textE (n : Nat) : Int := if size n ≤ 16384 ∧ (Lib.decDigits n).length ≤ 4096 then 0 else 4
def textS (n : Nat) : List UInt8 := if size n ≤ 16384 ∧ (Lib.decDigits n).length ≤ 4096 then Lib.decDigits n else []

theorem size_up {n i : Nat} (h : upN n i ≠ 0) : size (upN n (i + 1)) + 1 ≤ size (upN n i) := by
  have h1 := lt_size (upN n i)
  have hp := size_pos h
  have h2 : size (upN n (i + 1)) ≤ size (upN n i) - 1 := by
    refine size_le_of ?_
    rw [upN_succ, unit_val]
    have e : 2 ^ size (upN n i) = 2 * 2 ^ (size (upN n i) - 1) := by rw [← Nat.pow_succ']; congr 1; omega
    omega
  omega

/-- The parts of a number's numeral, in memory. -/
theorem parts_cells {w : World} {base k : Nat} {e : TypeId} {v : Value} {n : Nat} (h : w.ownsRow base e 1 v k ((partsL n k).map strV)) (h0 : 0 < k) :
    ∃ g c, v = .slice (some ⟨g, 0, none⟩) k c ∧ g < w.heap.size ∧ ∀ j, j < k → w.cell? ⟨g, j, none⟩ = some (strV (Lib.decDigits (partN n j))) := by
  rcases h.2 with ⟨_, h1⟩ | ⟨g, cap, cur, e1, _, hh, hcap, hm, _⟩
  · omega
  · subst e1
    refine ⟨g, cap, rfl, (h.lt g rfl).2, fun j hj => ?_⟩
    rw [h.cellAt j (by omega)]
    simp [partsL, hj]

theorem up_mono (n : Nat) {i j : Nat} (h : i ≤ j) : upN n j ≤ upN n i := Nat.div_le_div_left (Nat.pow_le_pow_right unit_pos h) (Nat.pow_pos unit_pos)
theorem doneL_len (n k i : Nat) : (doneL n k i).length ≤ size n + 1 := by
  unfold doneL
  split
  · simp
  · have h1 := dec_len_size (upN n i)
    have h2 := size_mono (show upN n i ≤ n from Nat.div_le_self _ _)
    omega
theorem text_few {n : Nat} (h1 : size n ≤ 16384) (h2 : (Lib.decDigits n).length ≤ 4096) : textE n = 0 ∧ textS n = Lib.decDigits n := by
  unfold textE textS
  rw [if_pos ⟨h1, h2⟩, if_pos ⟨h1, h2⟩]
  exact ⟨rfl, rfl⟩
theorem text_many {n : Nat} (h : ¬ (size n ≤ 16384 ∧ (Lib.decDigits n).length ≤ 4096)) : textE n = 4 ∧ textS n = [] := by
  unfold textE textS
  rw [if_neg h, if_neg h]
  exact ⟨rfl, rfl⟩

set_option maxRecDepth 100000 in
set_option maxHeartbeats 4000000 in
theorem gtext_pos {w : World} {Z : Zone} {a : Value} {n : Nat} (ha : IsN w Z a n) (h0 : n ≠ 0) (hsz : size n ≤ 16384) (hl : (limbs n).length ≤ 20000) (ht : Tab w) :
    Calls Tryz.prog 6 #[a] w fun e w' => e = .returned (.tuple #[strV (textS n), .int .i64 (textE n)]) ∧ Below w.heap.size w w' := by
  obtain ⟨A, ca, rfl, ha⟩ := ha
  obtain ⟨i0, hi, hz0, hz1, hz2⟩ := info_parts infoS
  have hlp : 0 < (limbs n).length := len_pos.2 h0
  have hal : Below w.heap.size w (w.alloc (.cells #[.slice A (limbs n).length ca] 23)) := (Below.refl _ w).alloc (Nat.le_refl _) _
  have hck := gchecked_good (c := 1) (given_one (ty := 23) ha) (by simp) (by simp [good_limbs])
  have ia : IsN _ old (.slice A (limbs n).length ca) n := ⟨A, ca, rfl, (ha.mono (le_old _)).below hal⟩
  have hlong := long_good ia (by omega)
  have Hck := Lib.hid hck
  have Hal := Lib.hid hal
  have Ia := Lib.hid ia
  have Hlong := Lib.hid hlong
  have Ht := Lib.hid ht
  have Hsz := Lib.hid hsz
  have Hl := Lib.hid hl
  have hd1 : decide ((16384 : Int) < (size n : Int)) = false := decide_eq_false (by omega)
  clear hck hal ia hlong ha ht
  obtain ⟨L, hL⟩ : ∃ L, L = (limbs n).length := ⟨_, rfl⟩
  rw [← hL] at Hal Ia Hlong hlp ⊢
  simp only [List.length_cons, List.length_nil, ← hL] at Hck
  have HL := Lib.hid hL
  clear hL hl
  have hd2 : ((L : Int) == 0) = false := beq_eq_false_iff_ne.2 (by omega)
  generalize hS : size n = S at Hlong hd1
  have HS := Lib.hid hS
  clear hS hsz
  go_enter Tryz.func6, Tryz.ntmps6
  go_wp2_with fail
  refine Hck.out.mono ?_
  rintro e w1 ⟨rfl, rfl⟩
  go_wp2_with fail
  refine Hlong.out.mono ?_
  rintro e w1 ⟨rfl, rfl⟩
  go_wp2
  go_loopw [0, 7] (fun u v wr => ∃ i, IsN wr old u (upN n i) ∧ Hid (wr.ownsRow w.heap.size 9 1 v i ((partsL n i).map strV)) ∧ Hid (i + size (upN n i) ≤ 16384) ∧ Hid (i = 0 ∨ upN n (i - 1) ≠ 0) ∧ Hid ((limbs (upN n i)).length ≤ 20000) ∧ Below w.heap.size w wr) (fun u _ wr => numAt wr u)
  case atStart => exact ⟨0, by rw [upN_zero]; exact Ia.out, World.ownsRow_nil _ _ _ _, by rw [upN_zero]; have := Hsz.out; exact (show 0 + size n ≤ 16384 by omega), .inl rfl, by rw [upN_zero]; exact Hl.out, Hal.out⟩
  case round =>
    obtain ⟨i, hp, hown, hsi, hprev, hlen, hbel⟩ := hrel
    by_cases hz : upN n i = 0
    · rename World => wq
      have hi0 : i ≠ 0 := fun e => by rw [e, upN_zero] at hz; exact h0 hz
      obtain ⟨k, rfl⟩ : ∃ k, i = k + 1 := ⟨i - 1, by omega⟩
      have hS1 : (limbs (upN n (k + 1))).length = 0 := by rw [hz]; rfl
      obtain ⟨Ap, cp, rfl, hup⟩ := hp
      rw [hS1]
      obtain ⟨g, c, rfl, hg, hcell⟩ := parts_cells hown.out (by omega)
      have hk : k + 1 ≤ 16384 := by have := hsi.out; omega
      have hbs : Lib.IsBuilderF 75 5 wq.heap.size wq.heap.size (Lib.byteCells (doneL n (k + 1) (k + 1))) (wq.alloc (.cells #[.pointer none, .slice none 0 0] 75)) := by
        rw [doneL_top]
        exact Lib.IsBuilderF.of (Lib.fresh_isBuilder _ _ wq)
      have hal2 : Below wq.heap.size wq (wq.alloc (.cells #[.pointer none, .slice none 0 0] 75)) := (Below.refl _ wq).alloc (Nat.le_refl _) _
      have Hbs := Lib.hid hbs
      have Hal2 := Lib.hid hal2
      have Hcell := Lib.hid hcell
      have Hz := Lib.hid hz
      clear hbs hal2 hcell hz hup hown hS1 hlen hsi
      go_wp2
      go_loopw [12] (fun iv ws => ∃ j : Nat, j ≤ k + 1 ∧ iv = .int .i64 ((j : Int) - 1) ∧ Hid (Lib.IsBuilderF 75 5 wq.heap.size wq.heap.size (Lib.byteCells (doneL n (k + 1) j)) ws) ∧ Below wq.heap.size wq ws) (fun iv _ => (intOf iv + 1).toNat)
      case atStart => exact ⟨k + 1, Nat.le_refl _, by go_num, Hbs.out, Hal2.out⟩
      case round =>
        obtain ⟨j, hj, rfl, hBd, hb⟩ := hrel
        cases j with
        | zero =>
          have hlenc : (Lib.byteCells (doneL n (k + 1) 0)).length = (Lib.decDigits n).length := by rw [Lib.byteCells_length, doneL_zero (by omega)]
          have hLen := Tryz.builderLen_ wq.heap.size wq.heap.size _ _ hBd.out
          have hStr := Tryz.builderString_ wq.heap.size wq.heap.size _ _ hBd.out (by have := hb.size; omega)
          rw [hlenc] at hLen
          rw [doneL_zero (by omega)] at hStr
          have HStr := Lib.hid hStr
          have HLen := Lib.hid hLen
          clear hLen hStr hlenc hBd
          generalize hM : (Lib.decDigits n).length = M at HLen
          have HM := Lib.hid hM
          clear hM
          have hbel2 := hbel.trans (hb.mono hbel.size)
          by_cases hfew : M ≤ 4096
          · have hd5 : decide ((4096 : Int) < (M : Int)) = false := decide_eq_false (by omega)
            obtain ⟨t1, t2⟩ := text_few Hsz.out (by rw [HM.out]; exact hfew)
            have T1 := Lib.hid t1
            have T2 := Lib.hid t2
            clear t1 t2
            generalize hsv : strV (Lib.decDigits n) = sv at HStr
            have Hsv := Lib.hid hsv
            clear hsv
            go_wp2_with fail
            refine HLen.out.mono ?_
            rintro e w2 ⟨rfl, rfl⟩
            go_wp2_with fail
            refine HStr.out.mono ?_
            rintro e w3 ⟨rfl, _, hb3, _⟩
            go_wp2
            go_ret2
            exact ⟨by rw [T1.out, T2.out]; rfl, hbel2.trans (hb3.mono hbel.size)⟩
          · have hd5 : decide ((4096 : Int) < (M : Int)) = true := decide_eq_true (by omega)
            obtain ⟨t1, t2⟩ := text_many (n := n) (fun h => hfew (by rw [← HM.out]; exact h.2))
            have T1 := Lib.hid t1
            have T2 := Lib.hid t2
            clear t1 t2
            go_wp2_with fail
            refine HLen.out.mono ?_
            rintro e w2 ⟨rfl, rfl⟩
            go_wp2
            go_ret2
            exact ⟨by rw [T1.out, T2.out]; rfl, hbel2⟩
        | succ m =>
          rw [show ((m + 1 : Nat) : Int) - 1 = (m : Int) by omega]
          have hd3 : decide ((0 : Int) ≤ (m : Int)) = true := decide_eq_true (by omega)
          have hpl := part_len n m
          obtain ⟨s, hs⟩ : ∃ s : ByteArray, s = ⟨(Lib.decDigits (partN n m)).toArray⟩ := ⟨_, rfl⟩
          have hss : s.size = (Lib.decDigits (partN n m)).length := by rw [hs]; simp [ByteArray.size]
          have hcs : Lib.strCells s = Lib.byteCells (Lib.decDigits (partN n m)) := by rw [hs]; rfl
          have hcq : wq.cell? ⟨g, m, none⟩ = some (.string s) := by rw [hs]; exact Hcell.out m (by omega)
          have hc := keepC hb hcq
          have Hcq := Lib.hid hcq
          clear hcq
          have hgw : g < wr.heap.size := Nat.lt_of_lt_of_le hg hb.size
          have hwb : wq.heap.size ≤ wr.heap.size := hb.size
          have hdl : (doneL n (k + 1) (m + 1)).length ≤ 20000 := by have h1 := doneL_len n (k + 1) (m + 1); have h2 := Hsz.out; omega
          obtain ⟨L2, hL2⟩ : ∃ L2, L2 = s.size := ⟨_, rfl⟩
          have Hcs := Lib.hid hcs
          have Hss := Lib.hid hss
          have HL2 := Lib.hid hL2
          clear hcs hs
          by_cases hmk : m < k
          · have hd4 : decide ((m : Int) < (k : Int)) = true := decide_eq_true (by omega)
            have hsub : (19 : Int) - (s.size : Int) = ((19 - L2 : Nat) : Int) := by omega
            obtain ⟨z, hz⟩ : ∃ z : ByteArray, z = ⟨(Lib.repeatL [48] (19 - L2)).toArray⟩ := ⟨_, rfl⟩
            have hrep : Calls Tryz.prog 48 #[.string ⟨#[48]⟩, .int .i64 ((19 - L2 : Nat) : Int)] wr fun e w' => e = .returned (.string z) ∧ Below wr.heap.size wr w' := by
              rw [hz]
              exact Tryz.repeat_ ⟨#[48]⟩ (19 - L2) wr (by omega) (by show 1 * (19 - L2) ≤ _; omega)
            have hzc : Lib.strCells z = Lib.byteCells (List.replicate (19 - L2) 48) := by
              have := Lib.repeatL_replicate 48 1 (19 - L2)
              rw [Nat.mul_one] at this
              rw [hz, ← this]
              rfl
            have hzs : z.size = 19 - L2 := by rw [← Lib.strCells_length, hzc, Lib.byteCells_length, List.length_replicate]
            have hfin : Lib.byteCells (doneL n (k + 1) (m + 1)) ++ Lib.strCells z ++ Lib.strCells s = Lib.byteCells (doneL n (k + 1) m) := by
              have hne : upN n (m + 1) ≠ 0 := by
                have h1 := up_mono n (show m + 1 ≤ k by omega)
                have h2 : upN n k ≠ 0 := hprev.out.resolve_left (by omega)
                omega
              rw [hzc, Hcs.out, doneL_next (by omega) hne, HL2.out, Hss.out, Lib.byteCells_append, Lib.byteCells_append]
            have Hfin := Lib.hid hfin
            have Hrep := Lib.hid hrep
            have Hzs := Lib.hid hzs
            clear hss hL2 hz hrep hzc hzs hfin
            go_wp2_with fail
            refine Hrep.out.mono ?_
            rintro e w2 ⟨rfl, hb2⟩
            have hB2 : Below wq.heap.size wq w2 := hb.trans (hb2.mono hwb)
            have hw1 := Tryz.writeString_ wq.heap.size wq.heap.size _ z w2 (builder_below hBd.out hb2) (by rw [Lib.byteCells_length, Hzs.out]; omega) hB2.size
            have Hw1 := Lib.hid hw1
            clear hw1 hBd
            go_wp2_with fail
            refine Hw1.out.mono ?_
            rintro e w3 ⟨rfl, hBd3, hb3, _⟩
            have hB3 : Below wq.heap.size wq w3 := hB2.trans hb3
            have hc3 := keepC hB3 Hcq.out
            have hw2 := Tryz.writeString_ wq.heap.size wq.heap.size _ s w3 (.inr hBd3) (by rw [List.length_append, Lib.byteCells_length, Lib.strCells_length, Hzs.out, Hss.out]; omega) hB3.size
            rw [Hfin.out] at hw2
            have Hw2 := Lib.hid hw2
            clear hw2 hBd3 hc
            go_wp2_with fail
            refine Hw2.out.mono ?_
            rintro e w4 ⟨rfl, hBd4, hb4, _⟩
            have HB4 : Hid (Lib.IsBuilderF 75 5 wq.heap.size wq.heap.size (Lib.byteCells (doneL n (k + 1) m)) w4) := .inr hBd4
            clear hBd4
            go_wp2
            go_roundw
            case rel => exact ⟨m, by omega, by go_num, HB4, hB3.trans hb4⟩
            case measure => (simp [intOf] <;> omega)
          · obtain rfl : m = k := by omega
            have hd4 : decide ((m : Int) < (m : Int)) = false := decide_eq_false (by omega)
            have hw2 := Tryz.writeString_ wq.heap.size wq.heap.size _ s wr hBd.out (by rw [Lib.byteCells_length, Hss.out]; omega) hwb
            have hfin : Lib.byteCells (doneL n (m + 1) (m + 1)) ++ Lib.strCells s = Lib.byteCells (doneL n (m + 1) m) := by
              rw [Hcs.out, doneL_first Hz.out, Lib.byteCells_append]
            rw [hfin] at hw2
            have Hw2 := Lib.hid hw2
            clear hw2 hBd hfin hss hL2
            go_wp2_with fail
            refine Hw2.out.mono ?_
            rintro e w4 ⟨rfl, hBd4, hb4, _⟩
            have HB4 : Hid (Lib.IsBuilderF 75 5 wq.heap.size wq.heap.size (Lib.byteCells (doneL n (m + 1) m)) w4) := .inr hBd4
            clear hBd4
            go_wp2
            go_roundw
            case rel => exact ⟨m, by omega, by go_num, HB4, hb.trans hb4⟩
            case measure => (simp [intOf] <;> omega)
    · rename World => wq
      have hdv := dword_good hp (y := unitN) unit_pos (by rw [unit_val]; omega) hlen.out
      have hup := size_up hz
      have hlen2 : (limbs (upN n (i + 1))).length ≤ 20000 := Nat.le_trans (len_mono (Nat.le_of_lt (up_lt hz))) hlen.out
      have hnum := numAt_eq hp
      have hlt := up_lt hz
      have hprt : partN n i < 18446744073709551616 := by have := part_lt n i; rw [unit_val] at this; omega
      have hps := partsL_succ n i
      have hsi2 : i + 1 + size (upN n (i + 1)) ≤ 16384 := by have := hsi.out; omega
      rw [← upN_succ, show upN n i % unitN = partN n i from rfl, unit_val] at hdv
      obtain ⟨Ap, cp, rfl, hup2⟩ := hp
      obtain ⟨A7, c7, rfl⟩ := own_shape hown.out
      have hpos : 0 < (limbs (upN n i)).length := len_pos.2 hz
      obtain ⟨Lp, hLp⟩ : ∃ Lp, Lp = (limbs (upN n i)).length := ⟨_, rfl⟩
      rw [← hLp] at hdv hnum hpos ⊢
      have hd6 : decide ((0 : Int) < (Lp : Int)) = true := decide_eq_true (by omega)
      have Hdv := Lib.hid hdv
      have Hnum := Lib.hid hnum
      have Hlt := Lib.hid hlt
      have Hps := Lib.hid hps
      have Hsi2 := Lib.hid hsi2
      have Hz := Lib.hid hz
      have Hlen2 := Lib.hid hlen2
      have Hprt := Lib.hid hprt
      have hi9 : i ≤ 16384 := by have := hsi.out; omega
      clear hdv hnum hlt hps hsi2 hz hlen2 hprt hup2 hLp hup hsi hlen hprev
      obtain ⟨s, hs⟩ : ∃ s : ByteArray, s = ⟨(Lib.decDigits (partN n i)).toArray⟩ := ⟨_, rfl⟩
      have Hs := Lib.hid hs
      obtain ⟨pn, hpn⟩ : ∃ pn, pn = partN n i := ⟨_, rfl⟩
      rw [← hpn] at Hdv
      have Hpn := Lib.hid hpn
      clear hs hpn
      go_wp2_with fail
      refine Hdv.out.mono ?_
      rintro e w2 ⟨q, rfl, hq, hb2⟩
      have hB2 := from_ hbel hb2
      have hwid := fmt_uint (u := pn) (by rw [Hpn.out]; exact Hprt.out) (Ht.out.below (hB2.mono (Nat.le_refl _)))
      rw [Hpn.out, ← Hs.out, ← Hpn.out] at hwid
      have Hwid := Lib.hid hwid
      have Hq := Lib.hid hq
      have Ho7 : Hid (∀ r, (Value.slice A7 i c7).ownBlock = some r → r < wq.heap.size) := fun r hr => (hown.out.lt r hr).2
      have Hown2 := Lib.hid (own_under hown.out hb2)
      clear hwid hq hown
      go_wp2_with fail
      refine Hwid.out.mono ?_
      rintro e w3 ⟨rfl, hb3⟩
      have hB3 := from_ hB2 hb3
      have hown3 := own_under Hown2.out hb3
      have Hq3 := Lib.hid (Hq.out.below hb3)
      clear Hown2 Hq
      go_wp2_with (at_builtin; go_loud (refine wpList_appS _ rfl _ _ 67 rfl w.heap.size 9 i0 (.string ⟨#[]⟩) Tryz.underlying67 hi hz0 hz1 hz2 rfl _ _ _ rfl (hown3.alloc _) w3.heap.size (.string s) rfl (cell_newest rfl rfl) rfl (by omega) (by have := hB3.size; simp; omega) ?_); intro v' w4 hown4 hgrow)
      have hal4 : Below w3.heap.size w3 (w3.alloc (.cells #[.string s] 9)) := (Below.refl _ w3).alloc (Nat.le_refl _) _
      have hB4 : Below w.heap.size w w4 := (hB3.trans (hal4.mono hB3.size)).grown hgrow (by have := hB3.size; simp; omega) (fun b hb => (hown3.lt b hb).1)
      have Hown4 : Hid (w4.ownsRow w.heap.size 9 1 v' (i + 1) ((partsL n (i + 1)).map strV)) := by
        have e : (partsL n (i + 1)).map strV = (partsL n i).map strV ++ [Value.string s] := by rw [Hps.out, List.map_append, Hs.out]; rfl
        rw [e]
        exact hown4
      have hq4 : IsN w4 old q (upN n (i + 1)) := by
        refine (IsU.keep ((Hq3.out).below hal4) fun b hbz hbl => ?_).old
        refine hgrow.block b hbl fun h => ?_
        have h1 := Ho7.out b h.symm
        have h2 : wq.heap.size ≤ b := hbz
        omega
      exact ⟨⟨i + 1, hq4, Hown4, Hsi2, .inr (by rw [Nat.add_sub_cancel]; exact Hz.out), Hlen2, hB4⟩, by rw [numAt_eq hq4, Hnum.out]; exact Hlt.out⟩

set_option maxRecDepth 100000 in
set_option maxHeartbeats 1000000 in
theorem gtext_zero {w : World} {Z : Zone} {a : Value} (ha : IsN w Z a 0) :
    Calls Tryz.prog 6 #[a] w fun e w' => e = .returned (.tuple #[strV [48], .int .i64 0]) ∧ Below w.heap.size w w' := by
  obtain ⟨A, ca, rfl, ha⟩ := ha
  have hal : Below w.heap.size w (w.alloc (.cells #[.slice A (limbs 0).length ca] 23)) := (Below.refl _ w).alloc (Nat.le_refl _) _
  have hck := gchecked_good (c := 1) (given_one (ty := 23) ha) (by simp) (by simp [good_limbs])
  have ia : IsN _ old (.slice A (limbs 0).length ca) 0 := ⟨A, ca, rfl, (ha.mono (le_old _)).below hal⟩
  have hlong := long_good ia (by simp [limbs_zero])
  rw [size_zero] at hlong
  have e0 : (limbs 0).length = 0 := rfl
  rw [e0] at hal hck hlong ⊢
  have Hck := Lib.hid hck
  have Hal := Lib.hid hal
  have Hlong := Lib.hid hlong
  clear hck hal ia hlong ha e0
  go_enter Tryz.func6, Tryz.ntmps6
  go_wp2_with fail
  refine Hck.out.mono ?_
  rintro e w1 ⟨rfl, rfl⟩
  go_wp2_with fail
  refine Hlong.out.mono ?_
  rintro e w1 ⟨rfl, rfl⟩
  go_wp2
  go_ret2
  exact ⟨rfl, Hal.out⟩

set_option maxRecDepth 100000 in
set_option maxHeartbeats 1000000 in
theorem gtext_large {w : World} {Z : Zone} {a : Value} {n : Nat} (ha : IsN w Z a n) (hsz : 16384 < size n) (hl : (limbs n).length ≤ 900000) :
    Calls Tryz.prog 6 #[a] w fun e w' => e = .returned (.tuple #[strV [], .int .i64 4]) ∧ Below w.heap.size w w' := by
  obtain ⟨A, ca, rfl, ha⟩ := ha
  have hal : Below w.heap.size w (w.alloc (.cells #[.slice A (limbs n).length ca] 23)) := (Below.refl _ w).alloc (Nat.le_refl _) _
  have hck := gchecked_good (c := 1) (given_one (ty := 23) ha) (by simp) (by simp [good_limbs])
  have ia : IsN _ old (.slice A (limbs n).length ca) n := ⟨A, ca, rfl, (ha.mono (le_old _)).below hal⟩
  have hlong := long_good ia (by omega)
  have hd1 : decide ((16384 : Int) < (size n : Int)) = true := decide_eq_true (by omega)
  have Hck := Lib.hid hck
  have Hal := Lib.hid hal
  have Hlong := Lib.hid hlong
  clear hck hal ia hlong ha hsz hl
  simp only [List.length_cons, List.length_nil] at Hck
  generalize (limbs n).length = L at *
  generalize size n = S at *
  go_enter Tryz.func6, Tryz.ntmps6
  go_wp2_with fail
  refine Hck.out.mono ?_
  rintro e w1 ⟨rfl, rfl⟩
  go_wp2_with fail
  refine Hlong.out.mono ?_
  rintro e w1 ⟨rfl, rfl⟩
  go_wp2
  go_ret2
  exact ⟨rfl, Hal.out⟩

set_option maxRecDepth 100000 in
set_option maxHeartbeats 1000000 in
theorem gtext_bad {w : World} {Z : Zone} {a : Value} {l : List Nat} (ha : IsU w Z a l) (hg : good l = false) :
    Calls Tryz.prog 6 #[a] w fun e w' => e = .returned (.tuple #[strV [], .int .i64 8]) ∧ Below w.heap.size w w' := by
  obtain ⟨A, ca, rfl, ha⟩ := ha
  have hal : Below w.heap.size w (w.alloc (.cells #[.slice A l.length ca] 23)) := (Below.refl _ w).alloc (Nat.le_refl _) _
  have hck := gchecked_bad (c := 1) (given_one (ty := 23) ha) (by simp) ⟨l, by simp, hg⟩
  have Hck := Lib.hid hck
  have Hal := Lib.hid hal
  clear hck hal ha hg
  simp only [List.length_cons, List.length_nil] at Hck
  generalize l.length = L at *
  go_enter Tryz.func6, Tryz.ntmps6
  go_wp2_with fail
  refine Hck.out.mono ?_
  rintro e w1 ⟨rfl, rfl⟩
  go_wp2
  go_ret2
  exact ⟨rfl, Hal.out⟩

/-- Text at any words: an error and a text. -/
def errT (l : List Nat) : Int := if good l = true then textE (val l) else 8
def txtT (l : List Nat) : List UInt8 := if good l = true then textS (val l) else []

theorem gtext_all {w : World} {Z : Zone} {a : Value} {l : List Nat} (ha : IsU w Z a l) (hl : l.length ≤ 20000) (ht : Tab w) :
    Calls Tryz.prog 6 #[a] w fun e w' => e = .returned (.tuple #[strV (txtT l), .int .i64 (errT l)]) ∧ Below w.heap.size w w' := by
  unfold errT txtT
  cases hg : good l with
  | false => exact gtext_bad ha hg
  | true =>
    have hn := ha.num hg
    have hk : (limbs (val l)).length ≤ 20000 := by rw [limbs_val l ha.small hg]; exact hl
    rw [if_pos rfl, if_pos rfl]
    by_cases hz : val l = 0
    · have e0 : Lib.decDigits 0 = [48] := by rw [Lib.decDigits_one (by omega)]; rfl
      obtain ⟨t1, t2⟩ := text_few (n := 0) (by rw [size_zero]; omega) (by rw [e0]; simp)
      rw [hz] at hn ⊢
      rw [t1, t2, e0]
      exact gtext_zero hn
    · by_cases hs : size (val l) ≤ 16384
      · exact gtext_pos hn hz hs hk ht
      · obtain ⟨t1, t2⟩ := text_many (n := val l) (fun h => hs h.1)
        rw [t1, t2]
        exact gtext_large hn (by omega) (by omega)

end Go.Proofs.YtceenaegchlbcaaGreatDoor
