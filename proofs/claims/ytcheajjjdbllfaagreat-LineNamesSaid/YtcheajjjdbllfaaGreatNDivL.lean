/- append of a made slice of noughts; nat.Up once more, its room told. No conditions but bounds on lengths. -/
import Derived.Lib.AppendZeros
import Derived.Test.YtcheajjjdbllfaaGreatNDivI
import Derived.Test.YtcheajjjdbllfaaGreatNRefE
import Derived.Test.YtcheajjjdbllfaaGreatNClone
set_option linter.unusedVariables false
set_option linter.unusedSimpArgs false
set_option maxRecDepth 100000
set_option maxHeartbeats 40000000
namespace Go.Proofs.YtcheajjjdbllfaaGreat
open Go.Lib (hid)
open Go.RowKit Go.Shelf
variable {A B : Option Addr} {D R : List Nat} {Y Z Zd : Zone} {a : Value} {b c cD cR g m rb ro : Nat} {w w' : World}
theorem up_clip {n : Nat} (ha : IsN w Z a n) (hl : (limbs n).length ≤ 900000000000) (hb : b ≤ 65536) :
  Calls Tryz.prog 152 #[a, .int .i64 (b : Int)] w fun e w' => ∃ A L, e = .returned (.tuple #[.slice A L L, .int .i64 0]) ∧ IsN w' (new w.heap.size) (.slice A L L) (n * 2 ^ b) ∧ Below w.heap.size w w' := by
 obtain ⟨A, c, rfl, ha⟩ := ha
 obtain ⟨q, hq⟩ : ∃ q : Nat, q = b / 64 := ⟨_, rfl⟩
 obtain ⟨r, hr⟩ : ∃ r : Nat, r = b % 64 := ⟨_, rfl⟩
 have hbq : b = 64 * q + r := by omega
 have hr64 : r < 64 := by omega
 have hq64 : q ≤ 1024 := by omega
 have eq' : (b : Int) / 64 = (q : Int) := by omega
 have er' : (b : Int) % 64 = (r : Int) := by omega
 have Hbq := hid hbq
 clear hq hr hbq
 obtain ⟨i0, hi, hz0, hz1, hz2⟩ := info_parts Tryz.info76
 obtain ⟨L, hL⟩ : ∃ L : Nat, L = (limbs n).length := ⟨_, rfl⟩
 have HL := hid hL
 have hL1 : L ≤ 900000000000 := by omega
 have haL : U64s w Z A c (limbs n) := ha
 have hask := asked_good ha hb
 rw [← hL] at hask ⊢
 have Hask := hid hask
 clear hL hask
 go_enter Tryz.func152, Tryz.ntmps152
 go_wp2_with (first | (go_at_call 163; refine Hask.out.mono ?_; rintro e w' ⟨rfl, rfl⟩) | (at_make; go_loud (refine wpList_make_full _ rfl _ _ 23 rfl w.heap.size 76 i0 (.int .u64 0) 1 Tryz.underlying23 hi hz0 hz1 .i64 .i64 _ _ (q + L + 1) rfl rfl (by omega) (by omega) (by rw [hz2]; omega) (by simp only [maxLen]; omega) (Nat.le_refl _) ?_); intro w1 hown hgrow))
 have hown0 : w1.ownsRow w.heap.size 76 1 (.slice (some ⟨w.heap.size, 0, none⟩) (q + L + 1) (q + L + 1)) (q + L + 1) ((upO q 0 L [] 0).map fun x : Nat => Value.int .u64 (x : Int)) := by
  rw [upO_start, List.map_replicate]
  rw [Nat.mul_one] at hown
  simpa [Value.cells, toList_madeCells_one] using hown
 have hbel1 : Below w.heap.size w w1 := (Below.refl _ w).grown hgrow (Nat.le_refl _) (fun k h => by cases h)
 clear hown hgrow
 have hs2 : 0 < 2 ^ r := Nat.pow_pos (by omega)
 go_loopw [27] (fun i wr => ∃ (k : Nat) (m : List Nat) (h : Nat), k ≤ L ∧ i = .int .i64 k ∧ wr.ownsRow w.heap.size 76 1 (.slice (some ⟨w.heap.size, 0, none⟩) (q + L + 1) (q + L + 1)) (q + L + 1) ((upO q k L m h).map fun x : Nat => Value.int .u64 (x : Int)) ∧ UpInv (limbs n) (2 ^ r) k m h ∧ Below w.heap.size w wr)
  (fun i _ => L - (intOf i).toNat)
 case atStart => exact ⟨0, [], 0, Nat.zero_le _, rfl, hown0, UpInv.start _ hs2, hbel1⟩
 case round =>
  obtain ⟨k, m, top, hk, rfl, hown, hinv, hbel⟩ := hrel
  by_cases hlt : k < L
  · have hkl : k < (limbs n).length := by rw [← HL.out]; exact hlt
    obtain ⟨b1, o1, rfl, _, hb1, _, hc1⟩ := haL.open (by omega)
    have hx := (hbel.cell (p := ⟨b1, o1 + k, none⟩) hb1).trans (hc1 k hkl)
    have hxl := haL.small.get hkl
    have hsp : 2 ^ r < 18446744073709551616 := by
     have : 2 ^ r < 2 ^ 64 := Nat.pow_lt_pow_right (by omega) hr64
     exact this
    have hstep := hinv.step hkl haL.small hr64
    have hor := or_low top (limbs n)[k] r hinv.high (by omega)
    have hmk := hinv.len
    have hat := upO_at (q := q) (n := L) (h := top) hmk
    have hst := fun a b => upO_step (q := q) (n := L) (h := top) (a := a) (b := b) hmk hlt
    obtain ⟨Hstep, Hor, Hst⟩ := hid3 hstep hor hst
    have hcell := hown.cellAt (q + k) (by omega)
    rw [List.getElem?_map, hat] at hcell
    have hfr := hown.frozenAt (q + k)
    have hcell2 := hown.cellAt (q + k + 1) (by omega)
    rw [List.getElem?_map, upO_next hmk hlt] at hcell2
    have hcell2' : wr.cell? ⟨w.heap.size, q + k + 1, none⟩ = some (.int .u64 0) := hcell2
    have hfr2 := hown.frozenAt (q + k + 1)
    clear hcell2
    have hh64 : top < 18446744073709551616 := by have := hinv.high; omega
    clear hstep hor hst hat hmk hc1 hinv
    have hcell' : wr.cell? ⟨w.heap.size, q + k, none⟩ = some (.int .u64 (top : Int)) := hcell
    clear hcell
    have hkL : q + k < q + L + 1 := by omega
    have hmul := fun w => bits_Mul64 (limbs n)[k] (2 ^ r) hxl hsp w
    generalize (limbs n)[k] = x at *
    obtain ⟨s, hs⟩ : ∃ s : Nat, s = 2 ^ r := ⟨_, rfl⟩
    have hw2 : IntKind.u64.wrap ((2 : Int) ^ r) = (s : Int) := by rw [hs, IntKind.wrap_u64]; rw [show ((2 : Int) ^ r) = ((2 ^ r : Nat) : Int) by simp]; omega
    rw [← hs] at hmul
    rw [← hs] at Hor Hstep hsp
    have Hs2r := hid hs
    clear hs hs2
    go_wp2_with fail
    refine (hmul _).mono ?_
    rintro e w' ⟨rfl, rfl⟩
    clear hmul hw2
    have hp1 : x * s / 18446744073709551616 < 18446744073709551616 := by have := Hstep.out.high; omega
    have hp2 : x * s % 18446744073709551616 < 18446744073709551616 := Nat.mod_lt _ (by omega)
    generalize x * s / 18446744073709551616 = hi1 at *
    generalize x * s % 18446744073709551616 = lo1 at *
    go_wp2
    have hbits : bits BinOp.or IntKind.u64 (top : Int) (lo1 : Int) = ((top + lo1 : Nat) : Int) := by rw [bits_or_u64_nat top lo1 hh64 hp2, Hor.out]
    rw [hbits]
    have o1 := hown.stored (q + k) (.int .u64 ((top + lo1 : Nat) : Int))
    have o2 := o1.1.stored (q + k + 1) (.int .u64 (hi1 : Int))
    go_roundw
    case rel =>
     refine ⟨k + 1, _, _, by omega, by go_num, ?_, (by rw [← Hs2r.out]; exact Hstep.out), (hbel.setCell (p := ⟨w.heap.size, q + k, none⟩) (Nat.le_refl _) _).setCell (p := ⟨w.heap.size, q + k + 1, none⟩) (Nat.le_refl _) _⟩
     rw [← Hst.out, List.map_set, List.map_set]
     exact o2.1
    case measure => simp [intOf]; omega
  · obtain rfl : k = L := by omega
    have hinv' : UpInv (limbs n) (2 ^ r) (limbs n).length m top := by rw [← HL.out]; exact hinv
    obtain ⟨hsm, hv⟩ := hinv'.done (q := q) hr64
    rw [← HL.out] at hsm hv
    have hlen := upO_length (q := q) (h := top) hinv.len (Nat.le_refl k)
    have hu := isU_after (B := w.heap.size) hsm hlen.symm hown (Nat.le_refl _)
    obtain ⟨Hv, Hlen⟩ := hid2 hv hlen.symm
    clear hv hlen hinv hinv' hown0
    go_wp2_with (go_at_call 47; refine (trim_len hu Hlen.out).mono ?_; rintro e w' ⟨rfl, rfl⟩)
    go_ret2
    refine ⟨_, _, rfl, isN_trimU ?_ hu, hbel⟩
    rw [Hv.out, val_limbs, Hbq.out]
theorem run_app_z0 {P : Program} (w : World) (t tn ty e : TypeId) (i : TypeInfo) (kn : IntKind) (ht : P.underlying t = some (.slice e)) (htn : P.underlying tn = some (.int kn)) (hi : P.info? e = some i) (hz : i.zero = some (.int .u64 0)) (hsize : i.size = 1)
  (b : Option Addr) (n : Nat) : (Builtin.append_ #[t, tn] ty #[.slice b n n, .int kn 0]).run P w = .ok (.slice b n n) w := by
 cases b <;> simp [Builtin.append_, run_underlying ht, run_underlying htn, sizeOf, typeInfo, zeroValue, hi, hz, asInt, asIntOf, IntKind.wrap_i64, storeCells]
theorem run_app_z1 {P : Program} (w : World) (t tn ty e : TypeId) (i : TypeInfo) (kn : IntKind) (ht : P.underlying t = some (.slice e)) (htn : P.underlying tn = some (.int kn)) (hi : P.info? e = some i) (hz : i.zero = some (.int .u64 0)) (hsize : i.size = 1) (hby : i.bytes = 8)
  (b : Addr) (n : Nat) (olds : List Value) (hlo : olds.length = n) (holds : ∀ j v, olds[j]? = some v → w.cell? (b.add j) = some v) (h0 : 0 < n) (hn : n ≤ 1000000000000) :
  (Builtin.append_ #[t, tn] ty #[.slice (some b) n n, .int kn 1]).run P w =
   .ok (.slice (some ⟨w.heap.size, 0, none⟩) (n + 1) (grownCap w (n + 1) n e)) (w.drew.alloc (.cells (olds.toArray ++ Builtin.zeroCells (Value.int .u64 0).cells 1 ++ Builtin.zeroCells (Value.int .u64 0).cells (grownCap w (n + 1) n e - (n + 1))) e)) := by
 have hw : IntKind.i64.wrap 1 = 1 := by rw [IntKind.wrap_i64]; omega
 have h63 : ¬ (9223372036854775807 < ((n : Int) + 1)) := by omega
 have h48 : ¬ (281474976710656 < Builtin.nextslicecap (n + 1) n * i.bytes) := by
  have h1 : Builtin.nextslicecap (n + 1) n ≤ 2 * (n + 1) := nextslicecap_le (by omega)
  rw [hby]
  omega
 have h1 : ¬ (281474976710656 < (i.bytes : Int)) := by rw [hby]; omega
 have hfo := run_firstCells_some (P := P) w.drew i.size n b n n olds (by rw [hsize]; omega) (by simpa using holds)
 have hns : ¬ (n + 1 ≤ n) := by omega
 simp [Builtin.append_, run_underlying ht, run_underlying htn, sizeOf, typeInfo, zeroValue, hi, hz, asInt, asIntOf, hw, h63, h48, h1, hsize, hns, Question.forced, newRow, grownCap]
 rw [hsize] at hfo
 have hm : (max (1 : Int) 0) = 1 := rfl
 rw [hm, if_neg h63, hfo]
 simp [grownCap]
theorem val_append0 (l : List Nat) (z : Nat) : val (l ++ List.replicate z 0) = val l := by rw [val_append, val_replicate0, Nat.mul_zero, Nat.add_zero]
theorem wpList_app0 {P : Program} (w : World) {ops : Array Oper} {rest : List Oper} {o : Oper} {a : Act} {Q : Exit → Act → World → Prop} (hgd : o.guard = none) (s x : Operand) (t tn : TypeId) (kn : IntKind)
  (ho : o.op = .call { callee := .builtin .append, args := #[s, x], argTypes := #[t, tn] })
  (e : TypeId) (i : TypeInfo) (ht : P.underlying t = some (.slice e)) (htn : P.underlying tn = some (.int kn)) (hi : P.info? e = some i) (hz : i.zero = some (.int .u64 0)) (hsize : i.size = 1) (hby : i.bytes = 8)
  {o' n : Nat} {l : List Nat} (z : Nat) (hz1 : z ≤ 1) (hn : n = l.length) (h0 : 0 < n) (hb : n ≤ 1000000000000) (hs : a.eval s = .slice (some ⟨b, o', none⟩) n n) (zi : Int) (hzi : zi = (z : Int)) (hx : a.eval x = .int kn zi)
  (hl : U64s w Z (some ⟨b, o', none⟩) n l) (hZ : Z.soft)
  (h : ∀ b' o'' c' w', (b' = b ∨ b' = w.heap.size) → b' < w'.heap.size → Below w.heap.size w w' → U64s w' (only b') (some ⟨b', o'', none⟩) c' (l ++ List.replicate z 0) → wpList P ops Q rest (a.put o.dst (.slice (some ⟨b', o'', none⟩) (n + z) c')) w') : wpList P ops Q (o :: rest) a w := by
 subst hzi
 subst hn
 obtain ⟨b1, o1, e1, _, hblt, hfr, hc⟩ := hl.open h0
 injection e1 with e1
 injection e1 with e1 e2
 subst e1 e2
 rcases (show z = 0 ∨ z = 1 by omega) with rfl | rfl
 · refine Go.Lib.wpList_append_run w hgd s x t tn ho _ _ hs hx _ _ (run_app_z0 w t tn o.type e i kn ht htn hi hz hsize _ _) ?_
   refine h b o' l.length w (.inl rfl) hblt (Below.refl _ _) ?_
   rw [List.replicate_zero, List.append_nil]
   exact ⟨hl.small, hl.cap, hl.max, hl.nul, fun hp => by
    obtain ⟨b1, o1, e1, _, hf, hc⟩ := hl.row hp
    injection e1 with e1
    injection e1 with e1 e2
    subst e1 e2
    exact ⟨b, o', rfl, rfl, fun _ => hf hZ, hc⟩⟩
 · have hrun := run_app_z1 w t tn o.type e i kn ht htn hi hz hsize hby ⟨b, o', none⟩ l.length (l.map fun x : Nat => Value.int .u64 (x : Int)) (by simp) (fun j v hv => by
    have hj : j < l.length := by have := (List.getElem?_eq_some_iff.1 hv).1; simpa using this
    rw [Addr.add_lit]
    rw [List.getElem?_map, List.getElem?_eq_getElem hj] at hv
    rw [hc j hj]
    simpa using hv) h0 hb
   refine Go.Lib.wpList_append_run w hgd s x t tn ho _ _ hs hx _ _ hrun ?_
   have hge := grownCap_ge w (l.length + 1) l.length e
   have hle := grownCap_le_maxLen w (l.length + 1) l.length e (by simp only [maxLen]; omega)
   refine h w.heap.size 0 _ _ (.inr rfl) (by simp) (((Below.refl _ w).drew).alloc (by simp) _) ⟨hl.small.append (Small.replicate0 _), by simpa using hge, by simpa [maxLen] using hle, (fun h => by cases h), fun _ => ⟨_, _, rfl, rfl, fun _ j => World.frozen?_alloc_new (w := w.drew) _ _ _, fun j u hu => ?_⟩⟩
   refine cell_newest (W := w.drew) rfl ?_
   rw [Nat.zero_add]
   have hj : j < l.length + 1 := by have := (List.getElem?_eq_some_iff.1 hu).1; simpa using this
   rw [Array.getElem?_append_left (by simp [Value.cells, Builtin.zeroCells]; omega), ← hu]
   have hr : Array.range 1 = #[0] := rfl
   simp [Value.cells, Builtin.zeroCells, hr]
theorem knuth_norm {n s : Nat} (h0 : 0 < (limbs n).length) (hle : (limbs n).length ≤ (limbs m).length) (hs : s = 64 - size ((limbs n)[(limbs n).length - 1])) :
  s ≤ 63 ∧ (limbs (n * 2 ^ s)).length = (limbs n).length ∧ (limbs m).length ≤ (limbs (m * 2 ^ s)).length ∧ (limbs (m * 2 ^ s)).length ≤ (limbs m).length + 1 ∧
   m * 2 ^ s < n * 2 ^ s * 18446744073709551616 ^ ((limbs m).length - (limbs n).length + 1) := by
 have hn0 : n ≠ 0 := fun e => by subst e; simp [limbs_zero] at h0
 obtain ⟨y, hy⟩ : ∃ y, y = (limbs n)[(limbs n).length - 1] := ⟨_, rfl⟩
 rw [← hy] at hs
 have hyW : y < 18446744073709551616 := by rw [hy]; exact (small_limbs n).get _
 have hgl := good_last h0
 rw [good_limbs, ← hy] at hgl
 have hy0 : 0 < y := by
  have : y ≠ 0 := by simpa using hgl.symm
  omega
 obtain ⟨g1, g2, g3⟩ := size_word hy0 hyW
 have g4 := size_pos (n := y) (by omega)
 rw [← hs] at g2 g3
 have hp : 0 < 2 ^ s := Nat.pow_pos (by omega)
 have hup : (limbs (n * 2 ^ s)).length ≤ (limbs n).length := by
  apply len_limbs_le
  obtain ⟨k, hk⟩ : ∃ k, (limbs n).length = k + 1 := ⟨(limbs n).length - 1, by omega⟩
  have h1 := val_take_succ (l := limbs n) (i := k) (by omega)
  rw [show k + 1 = (limbs n).length by omega, List.take_length, val_limbs] at h1
  have h2 := val_lt ((small_limbs n).take k)
  rw [List.length_take, Nat.min_eq_left (by omega)] at h2
  have h3 : y = (limbs n)[k] := by rw [hy]; congr 1; omega
  rw [← h3] at h1
  rw [hk, Nat.pow_succ]
  have h4 : n < (y + 1) * 18446744073709551616 ^ k := by
   rw [h1, Nat.add_mul, Nat.one_mul, Nat.mul_comm y]
   omega
  have h5 : (y + 1) * 2 ^ s ≤ 18446744073709551616 := by
   have h6 := lt_size y
   have h7 : (y + 1) * 2 ^ s ≤ 2 ^ size y * 2 ^ s := Nat.mul_le_mul_right _ h6
   rw [← Nat.pow_add, show size y + s = 64 by omega] at h7
   exact h7
  have h8 : n * 2 ^ s < (y + 1) * 18446744073709551616 ^ k * 2 ^ s := Nat.mul_lt_mul_of_pos_right h4 hp
  have h9 : (y + 1) * 18446744073709551616 ^ k * 2 ^ s = (y + 1) * 2 ^ s * 18446744073709551616 ^ k := by rw [Nat.mul_right_comm]
  rw [h9] at h8
  refine Nat.lt_of_lt_of_le h8 ?_
  rw [Nat.mul_comm]
  exact Nat.mul_le_mul_left _ h5
 have hge : ∀ x, (limbs x).length ≤ (limbs (x * 2 ^ s)).length := fun x => len_mono (Nat.le_mul_of_pos_right _ hp)
 refine ⟨by omega, Nat.le_antisymm hup (hge n), hge m, ?_, ?_⟩
 · have := len_shift m s
   have h3 : s / 64 = 0 := by omega
   rw [h3] at this
   exact this
 · have h1 := pow_le_len hn0
   have h2 := lt_pow_len m
   have h3 : 18446744073709551616 ^ ((limbs n).length - 1) * 18446744073709551616 ^ ((limbs m).length - (limbs n).length + 1) ≤ n * 18446744073709551616 ^ ((limbs m).length - (limbs n).length + 1) := Nat.mul_le_mul_right _ h1
   rw [← Nat.pow_add, show (limbs n).length - 1 + ((limbs m).length - (limbs n).length + 1) = (limbs m).length by omega] at h3
   rw [Nat.mul_right_comm]
   exact Nat.mul_lt_mul_of_pos_right (Nat.lt_of_lt_of_le h2 h3) hp
theorem IsN.clipped {L n : Nat} (h : IsN w Z (.slice A L L) n) (h0 : n ≠ 0) :
  ∃ b o, A = some ⟨b, o, none⟩ ∧ L = (limbs n).length ∧ U64s w Z (some ⟨b, o, none⟩) L (limbs n) ∧ Z.blk b ∧ b < w.heap.size := by
 obtain ⟨A', c, e, h⟩ := h
 injection e with e1 e2 e3
 subst e1 e3
 obtain ⟨b, o, rfl, h1, h2, _, _⟩ := h.open (by rw [len_pos]; exact h0)
 exact ⟨b, o, rfl, e2, h, h1, h2⟩
theorem U64s.only_ {o : Nat} {l : List Nat} (h : U64s w Z (some ⟨b, o, none⟩) c l) (hZ : Z.soft) : U64s w (only b) (some ⟨b, o, none⟩) c l :=
 ⟨h.small, h.cap, h.max, h.nul, fun hp => by
  obtain ⟨b1, o1, e1, _, hf, hc⟩ := h.row hp
  injection e1 with e1
  injection e1 with e1 e2
  subst e1 e2
  exact ⟨b, o, rfl, rfl, fun _ => hf hZ, hc⟩⟩
theorem U64s.zone {l : List Nat} (h : U64s w Z A c l) (hb : ∀ b, Z.blk b → b < w.heap.size → Y.blk b) (hs : Y.soft → Z.soft) : U64s w Y A c l :=
 ⟨h.small, h.cap, h.max, h.nul, fun hp => by
  obtain ⟨b1, o1, e1, hz, hf, hc⟩ := h.row hp
  exact ⟨b1, o1, e1, hb _ hz (lt_of_cell (hc 0 _ (List.getElem?_eq_getElem hp))), fun h => hf (hs h), hc⟩⟩
theorem Divr.below (h : Divr w g rb ro cR Zd B cD R D) (hb : Below w.heap.size w w') : Divr w' g rb ro cR Zd B cD R D :=
 ⟨keepC hb h.c0, keepC hb h.c1, h.own.below hb, h.by_.below hb, h.ne, h.nz, h.max⟩
theorem Divr.other {x : Nat} (h : Divr w g rb ro cR Zd B cD R D) (hj : Just x w w') (h1 : g ≠ x) (h2 : rb ≠ x) (h3 : ¬ Zd.blk x) : Divr w' g rb ro cR Zd B cD R D :=
 ⟨hj.cell h1 h.c0, hj.cell h1 h.c1, hj.words (fun e => h2 e.symm) h.own, hj.words h3 h.by_, h.ne, h.nz, h.max⟩
theorem good_top {l : List Nat} (hg : good l = true) {j : Nat} (hj : j < l.length) (e : j + 1 = l.length) : 0 < l[j] := by
 have h1 := good_last (l := l) (by omega)
 rw [hg] at h1
 have h2 : l[l.length - 1]'(by omega) = l[j] := by congr 1; omega
 rw [h2] at h1
 have : l[j] ≠ 0 := by simpa using h1.symm
 omega
theorem errD_good {n : Nat} (hn : 0 < n) : errD (limbs m) (limbs n) = 0 := by
 have : (limbs n).length ≠ 0 := fun e => by
  have := limbs_eq_nil.1 (List.length_eq_zero_iff.1 e)
  omega
 simp [errD, good_limbs, this]
theorem ddiv_long {b : Value} {n : Nat} (ha : IsN w Z a m) (hb : IsN w Y b n) (h2 : 2 ≤ (limbs n).length) (hle : (limbs n).length ≤ (limbs m).length) (hl : (limbs m).length ≤ 20000000000) :
  Calls Tryz.prog 142 #[a, b] w fun e w' => ∃ q r, e = .returned (.tuple #[q, r, .int .i64 0]) ∧ IsN w' (new w.heap.size) q (m / n) ∧ IsN w' (new w.heap.size) r (m % n) ∧ Below w.heap.size w w' := by
 have hn : 0 < n := by
  rcases Nat.eq_zero_or_pos n with h | h
  · subst h; simp [limbs_zero] at h2
  · exact h
 have hck := dchecked_any ha hb
 rw [errD_good hn] at hck
 obtain ⟨s, hs⟩ : ∃ s, s = 64 - size ((limbs n)[(limbs n).length - 1]) := ⟨_, rfl⟩
 obtain ⟨hs63, hDl, hRl1, hRl2, hMlt⟩ := knuth_norm (by omega) hle hs
 have hyW := (small_limbs n).get (show (limbs n).length - 1 < (limbs n).length by omega)
 have hlz := fun w => lz64 ((limbs n)[(limbs n).length - 1]) w hyW
 rw [← hs] at hlz
 have hm0 : m * 2 ^ s ≠ 0 := by
  have h1 : m ≠ 0 := fun e => by
   rw [e, limbs_zero, List.length_nil] at hle
   omega
  have h3 : 0 < 2 ^ s := Nat.pow_pos (by omega)
  exact Nat.mul_ne_zero h1 (by omega)
 have hD0 : 0 < n * 2 ^ s := Nat.mul_pos hn (Nat.pow_pos (by omega))
 have hup1 := fun (w1 : World) (h : Below w.heap.size w w1) => up_clip (b := s) (ha.below h) (by omega) (by omega)
 have hup2 := fun (w1 : World) (h : Below w.heap.size w w1) => up_clip (b := s) (hb.below h) (by omega) (by omega)
 obtain ⟨A, ca, rfl, hua⟩ := ha
 obtain ⟨B, cb, rfl, hub⟩ := hb
 obtain ⟨bb, ob, rfl, _, hbb, _, hcb⟩ := hub.open (by omega)
 have hcy := hcb ((limbs n).length - 1) (by omega)
 obtain ⟨i0, hi, hz0, hz1, hz2⟩ := info_parts Tryz.info76
 obtain ⟨la, hla⟩ : ∃ la, la = (limbs m).length := ⟨_, rfl⟩
 obtain ⟨lb, hlb⟩ : ∃ lb, lb = (limbs n).length := ⟨_, rfl⟩
 rw [← hla] at hl hle hRl1 hRl2 hMlt hck hup1 ⊢
 rw [← hlb] at h2 hle hDl hMlt hck hup2 ⊢
 have hlz' := hlz
 generalize (limbs n)[(limbs n).length - 1] = y at *
 rw [← hlb] at hcy
 have hnl1 : ((lb : Int) == 1) = false := beq_eq_false_iff_ne.2 (by omega)
 have hdl : decide (la < lb) = false := decide_eq_false (by omega)
 obtain ⟨Hck, Hup1, Hup2, Hlz, HDl, HMlt⟩ := hid6 hck hup1 hup2 hlz hDl hMlt
 obtain ⟨Hla, Hlb⟩ := hid2 hla hlb
 clear hck hup1 hup2 hlz hlz' hs hDl hMlt hla hlb hua hub hcb
 go_enter Tryz.func142, Tryz.ntmps142
 go_wp2_with fail
 refine Hck.out.mono ?_
 rintro e w1 ⟨rfl, rfl⟩
 go_wp2_with fail
 refine (Hlz.out _).mono ?_
 rintro e w1 ⟨rfl, rfl⟩
 go_wp2_with fail
 refine (Hup1.out _ (Below.refl _ _)).mono ?_
 rintro e w1 ⟨A1, L1, rfl, hR1, hb1⟩
 obtain ⟨b1, o1, rfl, hL1, hR1u, hb1z, hb1l⟩ := hR1.clipped hm0
 rw [← hL1] at hRl1 hRl2
 have HL1 := hid hL1
 clear hL1 hR1
 go_wp2_with fail
 refine (Hup2.out _ hb1).mono ?_
 rintro e w2 ⟨A2, L2, rfl, hD1, hb2⟩
 obtain ⟨b2, o2, rfl, hL2, hD1u, hb2z, hb2l⟩ := hD1.clipped (by omega)
 have hR2u := hR1u.below hb2
 have hB2 := from_ hb1 hb2
 obtain ⟨z, hz⟩ : ∃ z, z = la + 1 - L1 := ⟨_, rfl⟩
 have hz1' : z ≤ 1 := by omega
 have HL2 := hid hL2
 have hL1p : 0 < L1 := by omega
 have hzi : (la : Int) + 1 - (L1 : Int) = (z : Int) := by omega
 have Hzi := hid hzi
 clear hL2 hD1 hR1u hz hzi
 obtain ⟨K0, hK0⟩ : ∃ K0, K0 = la - lb + 1 := ⟨_, rfl⟩
 have hKi : (la : Int) - (lb : Int) + 1 = (K0 : Int) := by omega
 have HKi := hid hKi
 have hwsz := hB2.size
 have HK0 := hid hK0
 have hKle : K0 ≤ 20000000000 := by omega
 have hK1 : 0 < K0 := by omega
 clear hKi hK0
 go_wp2_with (first
  | (at_builtin; go_loud (refine wpList_app0 _ rfl _ _ 23 3 .i64 rfl 76 i0 Tryz.underlying23 Tryz.underlying3 hi hz0 hz1 hz2 z hz1' HL1.out hL1p (by omega) rfl _ Hzi.out rfl hR2u trivial ?_); intro rb ro cR w3 hrb hrb2 hb3 hRu; have hw3 := hb3.size)
  | (at_make; go_loud (refine wpList_make_full _ rfl _ _ 23 rfl w.heap.size 76 i0 (.int .u64 0) 1 Tryz.underlying23 hi hz0 hz1 .i64 .i64 _ _ K0 rfl rfl HKi.out HKi.out (by rw [hz2]; omega) (by simp only [maxLen]; omega) (by simp; omega) ?_); intro w4 hown hgrow))
 have hcells : (madeCells (Value.int .u64 0).cells (K0 * 1)).toList = (List.replicate K0 0).map fun x : Nat => Value.int .u64 (x : Int) := by
  rw [Nat.mul_one, List.map_replicate]
  simpa [Value.cells] using toList_madeCells_one (.int .u64 0) K0
 rw [hcells] at hown
 obtain ⟨D, hD⟩ : ∃ D, D = limbs (n * 2 ^ s) := ⟨_, rfl⟩
 obtain ⟨R0, hR0⟩ : ∃ R0, R0 = limbs (m * 2 ^ s) ++ List.replicate z 0 := ⟨_, rfl⟩
 have hDlen : D.length = lb := by rw [hD]; exact HDl.out
 have hL2D : L2 = D.length := by rw [hD]; exact HL2.out
 have hRlen : R0.length = L1 + z := by rw [hR0, List.length_append, List.length_replicate, ← HL1.out]
 have hRla : R0.length = la + 1 := by
  have := Hzi.out
  omega
 have hvD : val D = n * 2 ^ s := by rw [hD]; exact val_limbs _
 have hvR : val R0 = m * 2 ^ s := by rw [hR0, val_append0]; exact val_limbs _
 have hgD : 0 < val D := by rw [hvD]; exact hD0
 have hDbig : ∀ h : lb - 1 < D.length, 0 < D[lb - 1] := by
  intro h
  exact good_top (by rw [hD]; exact good_limbs _) h (by omega)
 rw [← hR0] at hRu
 rw [← hD] at hD1u
 have hDsm := hD1u.small
 obtain ⟨g, hg⟩ : ∃ g, g = w3.heap.size := ⟨_, rfl⟩
 have hw3a : w3.heap.size + 1 = g + 1 := by omega
 have bx := Box.new w3 (.slice (some ⟨rb, ro, none⟩) (L1 + z) cR) (.slice (some ⟨b2, o2, none⟩) L2 L2) 205
 have hb3a : Below w3.heap.size w3 (w3.alloc (.cells #[.slice (some ⟨rb, ro, none⟩) (L1 + z) cR, .slice (some ⟨b2, o2, none⟩) L2 L2] 205)) := (Below.refl _ w3).alloc (Nat.le_refl _) _
 have hb4 : Below (w3.alloc (.cells #[.slice (some ⟨rb, ro, none⟩) (L1 + z) cR, .slice (some ⟨b2, o2, none⟩) L2 L2] 205)).heap.size (w3.alloc (.cells #[.slice (some ⟨rb, ro, none⟩) (L1 + z) cR, .slice (some ⟨b2, o2, none⟩) L2 L2] 205)) w4 := (Below.refl _ _).grown hgrow (Nat.le_refl _) (fun k h => by cases h)
 have hsz4 : w3.heap.size + 1 < w4.heap.size := by
  have := (hown.lt _ rfl).2
  simpa using this
 have hB4 : Below w.heap.size w w4 := from_ (from_ (from_ hB2 hb3) hb3a) hb4
 have bx4 := bx.below hb4
 have hq4 : U64s w4 (only (w3.heap.size + 1)) (some ⟨w3.heap.size + 1, 0, none⟩) K0 (List.replicate K0 0) := by
  have hsa : ∀ o, (w3.alloc o).heap.size = w3.heap.size + 1 := fun o => by simp
  rw [hsa] at hown
  exact (isU_after (B := w.heap.size) (Small.replicate0 _) (by simp) hown (Nat.le_refl _)).only_ trivial
 have hdv : Divr w4 g rb ro cR ⟨fun b => b ≠ rb ∧ b < g, False⟩ (some ⟨b2, o2, none⟩) L2 R0 D := by
  refine ⟨by rw [hg, hRlen]; exact bx4.c0, by rw [hg, ← hL2D]; exact bx4.c1, ((hRu.below hb3a).below hb4), ?_, by omega, fun h => h.1 rfl, by omega⟩
  refine (((hD1u.zone (Y := ⟨fun b => b ≠ rb ∧ b < g, False⟩) (fun b hb hl => ?_) (fun h => h.elim)).below hb3).below hb3a).below hb4
  have h1 : w1.heap.size ≤ b := hb
  refine ⟨?_, by omega⟩
  rcases hrb with h | h <;> omega
 have hst := KnuthI.start (D := val D) (n := lb) hRla hRu.small hvR (by rw [hvD]; exact HMlt.out)
 rw [← HK0.out] at hst
 obtain ⟨Hst, Hdv, Hq4, HvD, HvR, HgD⟩ := hid6 hst hdv hq4 hvD hvR hgD
 obtain ⟨Hg, HDbig⟩ := hid2 hg hDbig
 have hrbg : rb < g := by omega
 have hrbw : w.heap.size ≤ rb := by
  have h1 : w.heap.size ≤ b1 := hb1z
  rcases hrb with h | h <;> omega
 have HRb := hid hrbw
 have hwg : w.heap.size ≤ g := by omega
 have HDlen := hid hDlen
 obtain ⟨qb, hqb⟩ : ∃ qb, qb = w3.heap.size + 1 := ⟨_, rfl⟩
 have Hqb := hid hqb
 have hqg : qb = g + 1 := by omega
 rw [← hqb] at Hq4
 rw [← hg, ← hqg]
 have hqw4 : qb < w4.heap.size := by omega
 have hgq : g < qb := by omega
 clear hst hdv hq4 hvD hvR hgD hDbig hDlen hcells hown hgrow hb4 bx bx4 hb3a hRu hD1u hR2u hR0 hD hL2D hRlen hRla hw3a hrb hb3 hB2 hb2 hb1 hcy Hck Hup1 Hup2 Hlz Hla Hlb
 have hDlt : val D < 18446744073709551616 ^ lb := by
  have := val_lt hDsm
  rwa [HDlen.out] at this
 obtain ⟨HDlt, HDsm⟩ := hid2 hDlt hDsm
 clear hDlt hDsm hg hqb hqg
 go_loopw [16] (fun iv wr => ∃ (k : Nat) (R Q : List Nat), k ≤ K0 ∧ iv = .int .i64 ((k : Int) - 1) ∧ Hid (KnuthI (m * 2 ^ s) (val D) la lb k R Q) ∧ Hid (Divr wr g rb ro cR ⟨fun b => b ≠ rb ∧ b < g, False⟩ (some ⟨b2, o2, none⟩) L2 R D) ∧ Hid (U64s wr (only qb) (some ⟨qb, 0, none⟩) K0 Q) ∧ Below w.heap.size w wr ∧ qb < wr.heap.size) (fun iv _ => (intOf iv + 1).toNat)
 case atStart => exact ⟨K0, R0, List.replicate K0 0, Nat.le_refl _, rfl, Hst, Hdv, Hq4, hB4, hqw4⟩
 case round =>
  clear Hst Hdv Hq4 hB4 hsz4 hqw4
  obtain ⟨k, R, Q, hk, rfl, hK, hdv, hQ, hbel, hqw⟩ := hrel
  match k, hk, hK with
  | 0, hk, hK =>
    have e0 : (((0 : Nat) : Int) - 1) = -1 := rfl
    rw [e0]
    obtain ⟨hvq, hvr⟩ := hK.out.done
    obtain ⟨sc1, sc2⟩ := scaled m n (2 ^ s) (Nat.pow_pos (by omega))
    rw [HvD.out, sc1] at hvq
    rw [HvD.out, sc2] at hvr
    have hQl : Q.length = K0 := by rw [hK.out.lenQ, ← HK0.out]
    have c0 := hdv.out.c0
    have htr := dtrim_any hdv.out.own
    have hR := isN_trimU hvr hdv.out.own
    have hlr := len_val_le hdv.out.own.small
    rw [hvr] at hlr
    have hmx := hdv.out.max
    have hdn := down_good (b := s) hR (by omega) (by omega)
    rw [Nat.mul_div_cancel _ (Nat.pow_pos (by omega))] at hdn
    have htq := fun (w9 : World) (h : Below wr.heap.size wr w9) => dtrim_any (hQ.out.below h)
    rw [hQl] at htq
    have Hrl := hid hK.out.lenR
    generalize R.length = nR at *
    generalize (limbs (val R)).length = lr at *
    obtain ⟨Htr, Hdn, Htq, Hvq, HQz⟩ := hid5 htr hdn htq hvq hQ.out
    have hwq : w.heap.size ≤ qb := by omega
    clear htr hdn htq hvq hvr sc1 sc2 hQl hR hlr hK hdv hQ hmx
    go_wp2_with fail
    with_reducible refine Htr.out.mono ?_
    rintro e w5 ⟨rfl, rfl⟩
    go_wp2_with fail
    with_reducible refine Hdn.out.mono ?_
    rintro e w6 ⟨v, rfl, hv, hc6⟩
    have hB6 := from_ hbel hc6
    go_wp2_with fail
    with_reducible refine (Htq.out _ hc6).mono ?_
    rintro e w7 ⟨rfl, rfl⟩
    go_wp2
    go_ret3
    exact ⟨_, _, rfl, (isN_trimU Hvq.out (HQz.out.below hc6)).mono ⟨fun b hb => by have h1 : b = qb := hb; show w.heap.size ≤ b; omega, fun h => h⟩, hv.mono (new_le hbel.size), hB6⟩
  | k + 1, hk, hK =>
    have e0 : (((k + 1 : Nat) : Int) - 1) = (k : Int) := by omega
    rw [e0]
    have hRl := hK.out.lenR
    have hQl := hK.out.lenQ
    have hz := zero_of_val_lt (k := k + lb + 1) hK.out.smallR (by
     refine Nat.lt_of_lt_of_le hK.out.lt ?_
     rw [show k + lb + 1 = lb + (k + 1) by omega, Nat.pow_add _ lb (k + 1)]
     exact Nat.mul_le_mul_right _ (Nat.le_of_lt HDlt.out))
    have hdig := digit_lt HgD.out hK.out.lt
    obtain ⟨mm, hmm⟩ : ∃ mm, lb = mm + 2 := ⟨lb - 2, by omega⟩
    have hkl : k + lb < R.length := by have := HK0.out; omega
    have hgs := guess_any (a := k) (m := mm) hdv.out (by rw [HDlen.out]; exact hmm) (by omega) (fun j hj h => hz j hj (by omega)) hdig (fun h => by
     have h1 : mm + 1 = lb - 1 := by omega
     have h2 := HDbig.out (by rw [HDlen.out]; omega)
     have h3 : D[mm + 1] = D[lb - 1]'(by rw [HDlen.out]; omega) := by congr 1
     omega)
    obtain ⟨Hgs, HRl, HQl, Hz⟩ := hid4 hgs hRl hQl hz
    clear hgs hRl hQl hz hmm
    go_wp2_with fail
    with_reducible refine Hgs.out.mono ?_
    rintro e w5 ⟨q, rfl, hq, hge, hc5⟩
    have hdv5 := hdv.out.below hc5
    have hQ5 := hid (hQ.out.below hc5)
    have hB5 := from_ hbel hc5
    have hqw5 : qb < w5.heap.size := Nat.lt_of_lt_of_le hqw hc5.size
    have htk := take_any (q := q) (a := k) hdv5 hq (by rw [HDlen.out]; exact hkl)
    obtain ⟨Htk, Hdv5⟩ := hid2 htk hdv5
    clear htk hdv5 hc5 hbel hqw Hgs hdv hQ
    go_wp2_with fail
    with_reducible refine Htk.out.mono ?_
    rintro e w6 ⟨less, R1, rfl, hT⟩
    have hP : 0 < val D * 18446744073709551616 ^ k := Nat.mul_pos HgD.out (Nat.pow_pos (by omega))
    have hz1 : ∀ j (h : j < R1.length), k + lb + 1 ≤ j → R1[j] = 0 := fun j h hj =>
     (hT.same j h (by rw [← hT.len]; exact h) (by rw [HDlen.out]; omega)).trans (Hz.out j (by rw [← hT.len]; exact h) hj)
    have hV1 := val_lt_of_zero hT.small hz1
    have hG := GiveI.taken (X := val R) (P := val D * 18446744073709551616 ^ k) (top := 18446744073709551616 ^ (k + lb + 1)) hP hge hV1 hT.one (by
     have h1 := hT.eq
     rw [HDlen.out, Nat.mul_assoc] at h1
     exact h1)
    obtain ⟨hdv6, hQ6⟩ := hid2 (Hdv5.out.just hT.just hT.len hT.own) (hT.just.words (show ¬ (only qb).blk rb from fun h => by have h1 : rb = qb := h; omega) hQ5.out)
    have hB6 : Below w.heap.size w w6 := hB5.trans (hT.just.below (by have := HRb.out; omega) (Nat.le_of_lt (by omega)))
    have hqw6 : qb < w6.heap.size := Nat.lt_of_lt_of_le hqw5 hT.just.size
    have hlen6 := hT.len
    obtain ⟨HG, Hz1, Hlen6, HP⟩ := hid4 hG hz1 hlen6 hP
    clear hG hz1 hlen6 hT hV1 Htk Hdv5 hQ5 hB5 hqw5 hP hge
    go_wp2
    go_loopw [17, 18] (fun nv mv wr => ∃ (qn : Nat) (much : Bool) (R' : List Nat), nv = .int .u64 (qn : Int) ∧ mv = .bool much ∧ Hid (GiveI (val R) (val D * 18446744073709551616 ^ k) (18446744073709551616 ^ (k + lb + 1)) qn (val R') much) ∧ Hid (R'.length = R.length) ∧ Hid (Divr wr g rb ro cR ⟨fun b => b ≠ rb ∧ b < g, False⟩ (some ⟨b2, o2, none⟩) L2 R' D) ∧ Hid (∀ j (h : j < R'.length), k + lb + 1 ≤ j → R'[j] = 0) ∧ Hid (U64s wr (only qb) (some ⟨qb, 0, none⟩) K0 Q) ∧ Below w.heap.size w wr ∧ qb < wr.heap.size ∧ qn < 18446744073709551616) (fun nv _ _ => (intOf nv).toNat)
    case atStart => exact ⟨q, _, R1, rfl, rfl, HG, Hlen6, hdv6, Hz1, hQ6, hB6, hqw6, hq⟩
    case round =>
     clear HG Hlen6 hdv6 Hz1 hQ6 hB6 hqw6 hq
     obtain ⟨qn, much, R', rfl, rfl, hG, hlen, hdv, hz1, hQ, hbel, hqw, hq⟩ := hrel
     cases much with
     | true =>
       have h1 : 1 ≤ qn := Nat.lt_of_le_of_lt (Nat.zero_le _) (hG.out.yes rfl).1
       obtain ⟨q1, hq1⟩ : ∃ q1, q1 = qn - 1 := ⟨_, rfl⟩
       have f4 : IntKind.u64.wrap ((qn : Int) - 1) = (q1 : Int) := by rw [IntKind.wrap_u64]; omega
       have hlt1 : q1 < qn := by omega
       have hbk := dback_any (a := k) hdv.out (by rw [HDlen.out, hlen.out]; exact hkl)
       obtain ⟨Hbk, Hq1⟩ := hid2 hbk hq1
       clear hbk hq1
       go_wp2_with fail
       with_reducible refine Hbk.out.mono ?_
       rintro e w7 ⟨c, R2, rfl, hT⟩
       have hz2 : ∀ j (h : j < R2.length), k + lb + 1 ≤ j → R2[j] = 0 := fun j h hj =>
        (hT.same j h (by rw [← hT.len]; exact h) (by rw [HDlen.out]; omega)).trans (hz1.out j (by rw [← hT.len]; exact h) hj)
       have hV2 := val_lt_of_zero hT.small hz2
       obtain ⟨_, hG2⟩ := GiveI.back HP.out hG.out hV2 hT.one (by
        have h1 := hT.eq
        rw [HDlen.out] at h1
        exact h1)
       rw [← Hq1.out] at hG2
       obtain ⟨HG2, Hdv7, HQ7⟩ := hid3 hG2 (hdv.out.just hT.just hT.len hT.own) (hT.just.words (show ¬ (only qb).blk rb from fun h => by have h1 : rb = qb := h; omega) hQ.out)
       have hB7 : Below w.heap.size w w7 := hbel.trans (hT.just.below (by have := HRb.out; omega) (Nat.le_of_lt (by omega)))
       have hqw7 : qb < w7.heap.size := Nat.lt_of_lt_of_le hqw hT.just.size
       have Hlen7 : Hid (R2.length = R.length) := hT.len.trans hlen.out
       have Hz2 := hid hz2
       clear hG2 hT hV2 hz2 Hbk hG hlen hdv hz1 hQ hbel hqw
       go_wp2
       go_roundw
       case rel => exact ⟨q1, _, R2, rfl, rfl, HG2, Hlen7, Hdv7, Hz2, HQ7, hB7, hqw7, by omega⟩
       case measure => simp [intOf]; omega
     | false =>
       obtain ⟨hqn, hv'⟩ := hG.out.no rfl
       have hkQ : k < Q.length := by have := HQl.out; have := HK0.out; omega
       have hst := hK.out.step HgD.out hkQ (hlen.out.trans HRl.out) hdv.out.own.small hv'
       rw [← hqn] at hst
       have Hst := hid hst
       have hcell := hQ.out.cellAt hkQ
       have hfr := hQ.out.frozenAt trivial (by omega) k
       have hQs := hQ.out.store hkQ hq
       rw [Nat.zero_add] at hcell hfr hQs
       have HQs := hid hQs
       have hJ : Just qb wr (wr.setCell ⟨qb, k, none⟩ (.int .u64 (qn : Int))) := (Just.refl qb wr).setCell k (.int .u64 (qn : Int))
       have Hdv8 := hid (hdv.out.other hJ (by omega) (by omega) (fun h => by have := h.2; omega))
       have hkK : k < K0 := by omega
       have hB8 := hbel.setCell (p := ⟨qb, k, none⟩) (by show w.heap.size ≤ qb; omega) (.int .u64 (qn : Int))
       generalize Q[k] = old1 at *
       clear hqn hv' hst hQs hJ hG hlen hdv hz1 hQ hK
       go_wp2
       go_roundw
       case rel => exact ⟨k, R', _, by omega, rfl, Hst, Hdv8, HQs, hB8, by simpa [World.setCell] using hqw⟩
       case measure => simp [intOf]
end Go.Proofs.YtcheajjjdbllfaaGreat
