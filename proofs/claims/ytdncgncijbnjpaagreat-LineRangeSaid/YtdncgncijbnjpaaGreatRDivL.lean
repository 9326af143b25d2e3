/- append of a made slice of noughts; nat.Up once more, its room told. No conditions but bounds on lengths. -/
import Derived.Lib.AppendZeros
import Derived.Test.YtdncgncijbnjpaaGreatRDivI
import Derived.Test.YtdncgncijbnjpaaGreatRRefE
import Derived.Test.YtdncgncijbnjpaaGreatRClone
set_option linter.unusedVariables false
set_option linter.unusedSimpArgs false
set_option maxRecDepth 100000
set_option maxHeartbeats 40000000
namespace Go.Proofs.YtdncgncijbnjpaaGreat
open Go.Lib (hid)
open Go.RowKit Go.Shelf
variable {A B : Option Addr} {D R : List Nat} {Y Z Zd : Zone} {a : Value} {b c cD cR g m rb ro : Nat} {w' : World}
theorem up_clip {w : World} {n : Nat} (ha : IsN w Z a n) (hl : (limbs n).length ≤ 900000000000) (hb : b ≤ 65536) :
  Calls Tryz.prog 286 #[a, .int .i64 (b : Int)] w fun e w' => ∃ A L, e = .returned (.tuple #[.slice A L L, .int .i64 0]) ∧ IsN w' (new w.heap.size) (.slice A L L) (n * 2 ^ b) ∧ Below w.heap.size w w' := by
 obtain ⟨A, c, rfl, ha⟩ := ha
 obtain ⟨q, hq⟩ : ∃ q : Nat, q = b / 64 := ⟨_, rfl⟩
 obtain ⟨r, hr⟩ : ∃ r : Nat, r = b % 64 := ⟨_, rfl⟩
 have V : b = 64 * q + r := by omega
 have G : r < 64 := by omega
 have Kq : q ≤ 1024 := by omega
 have Kr : (b : Int) / 64 = (q : Int) := by omega
 have Ks : (b : Int) % 64 = (r : Int) := by omega
 have Kb := hid V
 clear hq hr V
 obtain ⟨i0, hi, Kk, Kl, Km⟩ := info_parts Tryz.info143
 obtain ⟨L, R⟩ : ∃ L : Nat, L = (limbs n).length := ⟨_, rfl⟩
 have H := hid R
 have Kt : L ≤ 900000000000 := by omega
 have I : U64s w Z A c (limbs n) := ha
 have J := asked_good ha hb
 rw [← R] at J ⊢
 have Kc := hid J
 clear R J
 go_enter Tryz.func286, Tryz.ntmps286
 go_wp2_with (first | (go_at_call 294; refine Kc.out.mono ?_; rintro e w' ⟨rfl, rfl⟩) | (at_make; go_loud (refine wpList_make_full _ rfl _ _ 33 rfl w.heap.size 143 i0 (.int .u64 0) 1 Tryz.underlying33 hi Kk Kl .i64 .i64 _ _ (q + L + 1) rfl rfl (by omega) (by omega) (by rw [Km]; omega) (by simp only [maxLen]; omega) (Nat.le_refl _) ?_); intro w1 C hgrow))
 have W : w1.ownsRow w.heap.size 143 1 (.slice (some ⟨w.heap.size, 0, none⟩) (q + L + 1) (q + L + 1)) (q + L + 1) ((upO q 0 L [] 0).map fun x : Nat => Value.int .u64 (x : Int)) := by
  rw [upO_start, List.map_replicate]
  rw [Nat.mul_one] at C
  simpa [Value.cells, toList_madeCells_one] using C
 have Kd : Below w.heap.size w w1 := (Below.refl _ w).grown hgrow (Nat.le_refl _) (fun k h => by cases h)
 clear C hgrow
 have X : 0 < 2 ^ r := Nat.pow_pos (by omega)
 go_loopw [27] (fun i wr => ∃ (k : Nat) (m : List Nat) (h : Nat), k ≤ L ∧ i = .int .i64 k ∧ wr.ownsRow w.heap.size 143 1 (.slice (some ⟨w.heap.size, 0, none⟩) (q + L + 1) (q + L + 1)) (q + L + 1) ((upO q k L m h).map fun x : Nat => Value.int .u64 (x : Int)) ∧ UpInv (limbs n) (2 ^ r) k m h ∧ Below w.heap.size w wr)
  (fun i _ => L - (intOf i).toNat)
 case atStart => exact ⟨0, [], 0, Nat.zero_le _, rfl, W, UpInv.start _ X, Kd⟩
 case round =>
  obtain ⟨k, m, top, hk, rfl, C, D, S⟩ := hrel
  by_cases hlt : k < L
  · have K : k < (limbs n).length := by rw [← H.out]; exact hlt
    obtain ⟨b1, P, rfl, _, Kn, _, y⟩ := I.open (by omega)
    have hx := (S.cell (p := ⟨b1, P + k, none⟩) Kn).trans (y k K)
    have Ke := I.small.get K
    have Y : 2 ^ r < 18446744073709551616 := by
     have : 2 ^ r < 2 ^ 64 := Nat.pow_lt_pow_right (by omega) G
     exact this
    have d := D.step K I.small G
    have g := or_low top (limbs n)[k] r D.high (by omega)
    have F := D.len
    have j := upO_at (q := q) (n := L) (h := top) F
    have o := fun a b => upO_step (q := q) (n := L) (h := top) (a := a) (b := b) F hlt
    obtain ⟨T, z, Ko⟩ := hid3 d g o
    have M := C.cellAt (q + k) (by omega)
    rw [List.getElem?_map, j] at M
    have Kv := C.frozenAt (q + k)
    have N := C.cellAt (q + k + 1) (by omega)
    rw [List.getElem?_map, upO_next F hlt] at N
    have Kw : wr.cell? ⟨w.heap.size, q + k + 1, none⟩ = some (.int .u64 0) := N
    have Kx := C.frozenAt (q + k + 1)
    clear N
    have Kf : top < 18446744073709551616 := by have := D.high; omega
    clear d g o j F y D
    have Ky : wr.cell? ⟨w.heap.size, q + k, none⟩ = some (.int .u64 (top : Int)) := M
    clear M
    have Kz : q + k < q + L + 1 := by omega
    have O := fun w => bits_Mul64 (limbs n)[k] (2 ^ r) Ke Y w
    generalize (limbs n)[k] = x at *
    obtain ⟨s, E⟩ : ∃ s : Nat, s = 2 ^ r := ⟨_, rfl⟩
    have Kg : IntKind.u64.wrap ((2 : Int) ^ r) = (s : Int) := by rw [E, IntKind.wrap_u64]; rw [show ((2 : Int) ^ r) = ((2 ^ r : Nat) : Int) by simp]; omega
    rw [← E] at O
    rw [← E] at z T Y
    have Kh := hid E
    clear E X
    go_wp2_with fail
    refine (O _).mono ?_
    rintro e w' ⟨rfl, rfl⟩
    clear O Kg
    have KA : x * s / 18446744073709551616 < 18446744073709551616 := by have := T.out.high; omega
    have Ki : x * s % 18446744073709551616 < 18446744073709551616 := Nat.mod_lt _ (by omega)
    generalize x * s / 18446744073709551616 = hi1 at *
    generalize x * s % 18446744073709551616 = lo1 at *
    go_wp2
    have Kj : bits BinOp.or IntKind.u64 (top : Int) (lo1 : Int) = ((top + lo1 : Nat) : Int) := by rw [bits_or_u64_nat top lo1 Kf Ki, z.out]
    rw [Kj]
    have P := C.stored (q + k) (.int .u64 ((top + lo1 : Nat) : Int))
    have o2 := P.1.stored (q + k + 1) (.int .u64 (hi1 : Int))
    go_roundw
    case rel =>
     refine ⟨k + 1, _, _, by omega, by go_num, ?_, (by rw [← Kh.out]; exact T.out), (S.setCell (p := ⟨w.heap.size, q + k, none⟩) (Nat.le_refl _) _).setCell (p := ⟨w.heap.size, q + k + 1, none⟩) (Nat.le_refl _) _⟩
     rw [← Ko.out, List.map_set, List.map_set]
     exact o2.1
    case measure => simp [intOf]; omega
  · obtain rfl : k = L := by omega
    have u : UpInv (limbs n) (2 ^ r) (limbs n).length m top := by rw [← H.out]; exact D
    obtain ⟨Ka, U⟩ := u.done (q := q) G
    rw [← H.out] at Ka U
    have Q := upO_length (q := q) (h := top) D.len (Nat.le_refl k)
    have v := isU_after (B := w.heap.size) Ka Q.symm C (Nat.le_refl _)
    obtain ⟨Hv, Kp⟩ := hid2 U Q.symm
    clear U Q D u W
    go_wp2_with (go_at_call 163; refine (trim_len v Kp.out).mono ?_; rintro e w' ⟨rfl, rfl⟩)
    go_ret2
    refine ⟨_, _, rfl, isN_trimU ?_ v, S⟩
    rw [Hv.out, val_limbs, Kb.out]
theorem run_app_z0 {P : Program} (w : World) (t tn ty e : TypeId) (i : TypeInfo) (kn : IntKind) (ht : P.underlying t = some (.slice e)) (htn : P.underlying tn = some (.int kn)) (hi : P.info? e = some i) (hz : i.zero = some (.int .u64 0)) (hsize : i.size = 1)
  (b : Option Addr) (n : Nat) : (Builtin.append_ #[t, tn] ty #[.slice b n n, .int kn 0]).run P w = .ok (.slice b n n) w := by
 cases b <;> simp [Builtin.append_, run_underlying ht, run_underlying htn, sizeOf, typeInfo, zeroValue, hi, hz, asInt, asIntOf, IntKind.wrap_i64, storeCells]
theorem run_app_z1 {P : Program} (w : World) (t tn ty e : TypeId) (i : TypeInfo) (kn : IntKind) (ht : P.underlying t = some (.slice e)) (htn : P.underlying tn = some (.int kn)) (hi : P.info? e = some i) (hz : i.zero = some (.int .u64 0)) (hsize : i.size = 1) (hby : i.bytes = 8)
  (b : Addr) (n : Nat) (olds : List Value) (hlo : olds.length = n) (holds : ∀ j v, olds[j]? = some v → w.cell? (b.add j) = some v) (h0 : 0 < n) (hn : n ≤ 1000000000000) :
  (Builtin.append_ #[t, tn] ty #[.slice (some b) n n, .int kn 1]).run P w =
   .ok (.slice (some ⟨w.heap.size, 0, none⟩) (n + 1) (grownCap w (n + 1) n e)) (w.drew.alloc (.cells (olds.toArray ++ Builtin.zeroCells (Value.int .u64 0).cells 1 ++ Builtin.zeroCells (Value.int .u64 0).cells (grownCap w (n + 1) n e - (n + 1))) e)) := by
 have D : IntKind.i64.wrap 1 = 1 := by rw [IntKind.wrap_i64]; omega
 have A : ¬ (9223372036854775807 < ((n : Int) + 1)) := by omega
 have E : ¬ (281474976710656 < Builtin.nextslicecap (n + 1) n * i.bytes) := by
  have B : Builtin.nextslicecap (n + 1) n ≤ 2 * (n + 1) := nextslicecap_le (by omega)
  rw [hby]
  omega
 have B : ¬ (281474976710656 < (i.bytes : Int)) := by rw [hby]; omega
 have C := run_firstCells_some (P := P) w.drew i.size n b n n olds (by rw [hsize]; omega) (by simpa using holds)
 have F : ¬ (n + 1 ≤ n) := by omega
 simp [Builtin.append_, run_underlying ht, run_underlying htn, sizeOf, typeInfo, zeroValue, hi, hz, asInt, asIntOf, D, A, E, B, hsize, F, Question.forced, newRow, grownCap]
 rw [hsize] at C
 have G : (max (1 : Int) 0) = 1 := rfl
 rw [G, if_neg A, C]
 simp [grownCap]
theorem val_append0 (l : List Nat) (z : Nat) : val (l ++ List.replicate z 0) = val l := by rw [val_append, val_replicate0, Nat.mul_zero, Nat.add_zero]
theorem wpList_app0 {P : Program} (w : World) {ops : Array Oper} {rest : List Oper} {o : Oper} {a : Act} {Q : Exit → Act → World → Prop} (hgd : o.guard = none) (s x : Operand) (t tn : TypeId) (kn : IntKind)
  (ho : o.op = .call { callee := .builtin .append, args := #[s, x], argTypes := #[t, tn] })
  (e : TypeId) (i : TypeInfo) (ht : P.underlying t = some (.slice e)) (htn : P.underlying tn = some (.int kn)) (hi : P.info? e = some i) (hz : i.zero = some (.int .u64 0)) (hsize : i.size = 1) (hby : i.bytes = 8)
  {o' n : Nat} {l : List Nat} (z : Nat) (hz1 : z ≤ 1) (hn : n = l.length) (h0 : 0 < n) (hb : n ≤ 1000000000000) (hs : a.eval s = .slice (some ⟨b, o', none⟩) n n) (zi : Int) (hzi : zi = (z : Int)) (hx : a.eval x = .int kn zi)
  (hl : U64s w Z (some ⟨b, o', none⟩) n l) (hZ : Z.soft)
  (h : ∀ b' o'' c' w', (b' = b ∨ b' = w.heap.size) → b' < w'.heap.size → Below w.heap.size w w' → U64s w' (only b') (some ⟨b', o'', none⟩) c' (l ++ List.replicate z 0) → wpList P ops Q rest (a.put o.dst (.slice (some ⟨b', o'', none⟩) (n + z) c')) w') : wpList P ops Q (o :: rest) a w := by
 subst hzi
 subst hn
 obtain ⟨H, I, A, _, J, L, C⟩ := hl.open h0
 injection A with A
 injection A with A e2
 subst A e2
 rcases (show z = 0 ∨ z = 1 by omega) with rfl | rfl
 · refine Go.Lib.wpList_append_run w hgd s x t tn ho _ _ hs hx _ _ (run_app_z0 w t tn o.type e i kn ht htn hi hz hsize _ _) ?_
   refine h b o' l.length w (.inl rfl) J (Below.refl _ _) ?_
   rw [List.replicate_zero, List.append_nil]
   exact ⟨hl.small, hl.cap, hl.max, hl.nul, fun hp => by
    obtain ⟨H, I, A, _, K, C⟩ := hl.row hp
    injection A with A
    injection A with A e2
    subst A e2
    exact ⟨b, o', rfl, rfl, fun _ => K hZ, C⟩⟩
 · have D := run_app_z1 w t tn o.type e i kn ht htn hi hz hsize hby ⟨b, o', none⟩ l.length (l.map fun x : Nat => Value.int .u64 (x : Int)) (by simp) (fun j v hv => by
    have B : j < l.length := by have := (List.getElem?_eq_some_iff.1 hv).1; simpa using this
    rw [Addr.add_lit]
    rw [List.getElem?_map, List.getElem?_eq_getElem B] at hv
    rw [C j B]
    simpa using hv) h0 hb
   refine Go.Lib.wpList_append_run w hgd s x t tn ho _ _ hs hx _ _ D ?_
   have E := grownCap_ge w (l.length + 1) l.length e
   have F := grownCap_le_maxLen w (l.length + 1) l.length e (by simp only [maxLen]; omega)
   refine h w.heap.size 0 _ _ (.inr rfl) (by simp) (((Below.refl _ w).drew).alloc (by simp) _) ⟨hl.small.append (Small.replicate0 _), by simpa using E, by simpa [maxLen] using F, (fun h => by cases h), fun _ => ⟨_, _, rfl, rfl, fun _ j => World.frozen?_alloc_new (w := w.drew) _ _ _, fun j u hu => ?_⟩⟩
   refine cell_newest (W := w.drew) rfl ?_
   rw [Nat.zero_add]
   have B : j < l.length + 1 := by have := (List.getElem?_eq_some_iff.1 hu).1; simpa using this
   rw [Array.getElem?_append_left (by simp [Value.cells, Builtin.zeroCells]; omega), ← hu]
   have G : Array.range 1 = #[0] := rfl
   simp [Value.cells, Builtin.zeroCells, G]
theorem knuth_norm {n s : Nat} (h0 : 0 < (limbs n).length) (hle : (limbs n).length ≤ (limbs m).length) (hs : s = 64 - size ((limbs n)[(limbs n).length - 1])) :
  s ≤ 63 ∧ (limbs (n * 2 ^ s)).length = (limbs n).length ∧ (limbs m).length ≤ (limbs (m * 2 ^ s)).length ∧ (limbs (m * 2 ^ s)).length ≤ (limbs m).length + 1 ∧
   m * 2 ^ s < n * 2 ^ s * 18446744073709551616 ^ ((limbs m).length - (limbs n).length + 1) := by
 have J : n ≠ 0 := fun e => by subst e; simp [limbs_zero] at h0
 obtain ⟨y, C⟩ : ∃ y, y = (limbs n)[(limbs n).length - 1] := ⟨_, rfl⟩
 rw [← C] at hs
 have K : y < 18446744073709551616 := by rw [C]; exact (small_limbs n).get _
 have F := good_last h0
 rw [good_limbs, ← C] at F
 have L : 0 < y := by
  have : y ≠ 0 := by simpa using F.symm
  omega
 obtain ⟨V, R, S⟩ := size_word L K
 have U := size_pos (n := y) (by omega)
 rw [← hs] at R S
 have D : 0 < 2 ^ s := Nat.pow_pos (by omega)
 have M : (limbs (n * 2 ^ s)).length ≤ (limbs n).length := by
  apply len_limbs_le
  obtain ⟨k, T⟩ : ∃ k, (limbs n).length = k + 1 := ⟨(limbs n).length - 1, by omega⟩
  have B := val_take_succ (l := limbs n) (i := k) (by omega)
  rw [show k + 1 = (limbs n).length by omega, List.take_length, val_limbs] at B
  have E := val_lt ((small_limbs n).take k)
  rw [List.length_take, Nat.min_eq_left (by omega)] at E
  have A : y = (limbs n)[k] := by rw [C]; congr 1; omega
  rw [← A] at B
  rw [T, Nat.pow_succ]
  have N : n < (y + 1) * 18446744073709551616 ^ k := by
   rw [B, Nat.add_mul, Nat.one_mul, Nat.mul_comm y]
   omega
  have O : (y + 1) * 2 ^ s ≤ 18446744073709551616 := by
   have P := lt_size y
   have G : (y + 1) * 2 ^ s ≤ 2 ^ size y * 2 ^ s := Nat.mul_le_mul_right _ P
   rw [← Nat.pow_add, show size y + s = 64 by omega] at G
   exact G
  have H : n * 2 ^ s < (y + 1) * 18446744073709551616 ^ k * 2 ^ s := Nat.mul_lt_mul_of_pos_right N D
  have Q : (y + 1) * 18446744073709551616 ^ k * 2 ^ s = (y + 1) * 2 ^ s * 18446744073709551616 ^ k := by rw [Nat.mul_right_comm]
  rw [Q] at H
  refine Nat.lt_of_lt_of_le H ?_
  rw [Nat.mul_comm]
  exact Nat.mul_le_mul_left _ O
 have I : ∀ x, (limbs x).length ≤ (limbs (x * 2 ^ s)).length := fun x => len_mono (Nat.le_mul_of_pos_right _ D)
 refine ⟨by omega, Nat.le_antisymm M (I n), I m, ?_, ?_⟩
 · have := len_shift m s
   have A : s / 64 = 0 := by omega
   rw [A] at this
   exact this
 · have B := pow_le_len J
   have E := lt_pow_len m
   have A : 18446744073709551616 ^ ((limbs n).length - 1) * 18446744073709551616 ^ ((limbs m).length - (limbs n).length + 1) ≤ n * 18446744073709551616 ^ ((limbs m).length - (limbs n).length + 1) := Nat.mul_le_mul_right _ B
   rw [← Nat.pow_add, show (limbs n).length - 1 + ((limbs m).length - (limbs n).length + 1) = (limbs m).length by omega] at A
   rw [Nat.mul_right_comm]
   exact Nat.mul_lt_mul_of_pos_right (Nat.lt_of_lt_of_le E A) D
theorem IsN.clipped {w : World} {L n : Nat} (h : IsN w Z (.slice A L L) n) (h0 : n ≠ 0) :
  ∃ b o, A = some ⟨b, o, none⟩ ∧ L = (limbs n).length ∧ U64s w Z (some ⟨b, o, none⟩) L (limbs n) ∧ Z.blk b ∧ b < w.heap.size := by
 obtain ⟨D, c, e, h⟩ := h
 injection e with e1 e2 e3
 subst e1 e3
 obtain ⟨b, o, rfl, B, C, _, _⟩ := h.open (by rw [len_pos]; exact h0)
 exact ⟨b, o, rfl, e2, h, B, C⟩
theorem U64s.only_ {w : World} {o : Nat} {l : List Nat} (h : U64s w Z (some ⟨b, o, none⟩) c l) (hZ : Z.soft) : U64s w (only b) (some ⟨b, o, none⟩) c l :=
 ⟨h.small, h.cap, h.max, h.nul, fun hp => by
  obtain ⟨D, E, A, _, B, C⟩ := h.row hp
  injection A with A
  injection A with A e2
  subst A e2
  exact ⟨b, o, rfl, rfl, fun _ => B hZ, C⟩⟩
theorem U64s.zone {w : World} {l : List Nat} (h : U64s w Z A c l) (hb : ∀ b, Z.blk b → b < w.heap.size → Y.blk b) (hs : Y.soft → Z.soft) : U64s w Y A c l :=
 ⟨h.small, h.cap, h.max, h.nul, fun hp => by
  obtain ⟨C, D, E, F, G, B⟩ := h.row hp
  exact ⟨C, D, E, hb _ F (lt_of_cell (B 0 _ (List.getElem?_eq_getElem hp))), fun h => G (hs h), B⟩⟩
theorem Divr.below {w : World} (h : Divr w g rb ro cR Zd B cD R D) (hb : Below w.heap.size w w') : Divr w' g rb ro cR Zd B cD R D :=
 ⟨keepC hb h.c0, keepC hb h.c1, h.own.below hb, h.by_.below hb, h.ne, h.nz, h.max⟩
theorem Divr.other {w : World} {x : Nat} (h : Divr w g rb ro cR Zd B cD R D) (hj : Just x w w') (h1 : g ≠ x) (h2 : rb ≠ x) (h3 : ¬ Zd.blk x) : Divr w' g rb ro cR Zd B cD R D :=
 ⟨hj.cell h1 h.c0, hj.cell h1 h.c1, hj.words (fun e => h2 e.symm) h.own, hj.words h3 h.by_, h.ne, h.nz, h.max⟩
theorem good_top {l : List Nat} (hg : good l = true) {j : Nat} (hj : j < l.length) (e : j + 1 = l.length) : 0 < l[j] := by
 have A := good_last (l := l) (by omega)
 rw [hg] at A
 have B : l[l.length - 1]'(by omega) = l[j] := by congr 1; omega
 rw [B] at A
 have : l[j] ≠ 0 := by simpa using A.symm
 omega
theorem errD_good {n : Nat} (hn : 0 < n) : errD (limbs m) (limbs n) = 0 := by
 have : (limbs n).length ≠ 0 := fun e => by
  have := limbs_eq_nil.1 (List.length_eq_zero_iff.1 e)
  omega
 simp [errD, good_limbs, this]
theorem ddiv_long {w : World} {b : Value} {n : Nat} (ha : IsN w Z a m) (hb : IsN w Y b n) (h2 : 2 ≤ (limbs n).length) (hle : (limbs n).length ≤ (limbs m).length) (hl : (limbs m).length ≤ 20000000000) :
  Calls Tryz.prog 278 #[a, b] w fun e w' => ∃ q r, e = .returned (.tuple #[q, r, .int .i64 0]) ∧ IsN w' (new w.heap.size) q (m / n) ∧ IsN w' (new w.heap.size) r (m % n) ∧ Below w.heap.size w w' := by
 have hn : 0 < n := by
  rcases Nat.eq_zero_or_pos n with h | h
  · subst h; simp [limbs_zero] at h2
  · exact h
 have u := dchecked_any ha hb
 rw [errD_good hn] at u
 obtain ⟨s, hs⟩ : ∃ s, s = 64 - size ((limbs n)[(limbs n).length - 1]) := ⟨_, rfl⟩
 obtain ⟨JN, KC, Qm, Qn, Kk⟩ := knuth_norm (by omega) hle hs
 have QS := (small_limbs n).get (show (limbs n).length - 1 < (limbs n).length by omega)
 have Ke := fun w => lz64 ((limbs n)[(limbs n).length - 1]) w QS
 rw [← hs] at Ke
 have QT : m * 2 ^ s ≠ 0 := by
  have F : m ≠ 0 := fun e => by
   rw [e, limbs_zero, List.length_nil] at hle
   omega
  have h3 : 0 < 2 ^ s := Nat.pow_pos (by omega)
  exact Nat.mul_ne_zero F (by omega)
 have QU : 0 < n * 2 ^ s := Nat.mul_pos hn (Nat.pow_pos (by omega))
 have Kq := fun (S : World) (h : Below w.heap.size w S) => up_clip (b := s) (ha.below h) (by omega) (by omega)
 have Kr := fun (S : World) (h : Below w.heap.size w S) => up_clip (b := s) (hb.below h) (by omega) (by omega)
 obtain ⟨A, ca, rfl, Jf⟩ := ha
 obtain ⟨B, cb, rfl, Qo⟩ := hb
 obtain ⟨bb, ob, rfl, _, JO, _, Qp⟩ := Qo.open (by omega)
 have KN := Qp ((limbs n).length - 1) (by omega)
 obtain ⟨i0, hi, Qq, K, W⟩ := info_parts Tryz.info143
 obtain ⟨L, KD⟩ : ∃ L, L = (limbs m).length := ⟨_, rfl⟩
 obtain ⟨lb, Kl⟩ : ∃ lb, lb = (limbs n).length := ⟨_, rfl⟩
 rw [← KD] at hl hle Qm Qn Kk u Kq ⊢
 rw [← Kl] at h2 hle KC Kk u Kr ⊢
 have QV := Ke
 generalize (limbs n)[(limbs n).length - 1] = y at *
 rw [← Kl] at KN
 have Jz : ((lb : Int) == 1) = false := beq_eq_false_iff_ne.2 (by omega)
 have JA : decide (L < lb) = false := decide_eq_false (by omega)
 obtain ⟨Qr, Qs, Qt, Qv, Jg, Jh⟩ := hid6 u Kq Kr Ke KC Kk
 obtain ⟨Ji, Jj⟩ := hid2 KD Kl
 clear u Kq Kr Ke QV hs KC Kk KD Kl Jf Qo Qp
 go_enter Tryz.func278, Tryz.ntmps278
 go_wp2_with fail
 refine Qr.out.mono ?_
 rintro e S ⟨rfl, rfl⟩
 go_wp2_with fail
 refine (Qv.out _).mono ?_
 rintro e S ⟨rfl, rfl⟩
 go_wp2_with fail
 refine (Qs.out _ (Below.refl _ _)).mono ?_
 rintro e S ⟨A1, L1, rfl, Qw, KE⟩
 obtain ⟨b1, o1, rfl, KF, Qx, Jk, JP⟩ := Qw.clipped QT
 rw [← KF] at Qm Qn
 have KO := hid KF
 clear KF Qw
 go_wp2_with fail
 refine (Qt.out _ KE).mono ?_
 rintro e w2 ⟨A2, H, rfl, Qy, KG⟩
 obtain ⟨T, U, rfl, Qz, Km, JQ, JR⟩ := Qy.clipped (by omega)
 have KP := Qx.below KG
 have Ks := from_ KE KG
 obtain ⟨z, hz⟩ : ∃ z, z = L + 1 - L1 := ⟨_, rfl⟩
 have QW : z ≤ 1 := by omega
 have QX := hid Qz
 have QY : 0 < L1 := by omega
 have KQ : (L : Int) + 1 - (L1 : Int) = (z : Int) := by omega
 have KR := hid KQ
 clear Qz Qy Qx hz KQ
 obtain ⟨K0, QA⟩ : ∃ K0, K0 = L - lb + 1 := ⟨_, rfl⟩
 have KS : (L : Int) - (lb : Int) + 1 = (K0 : Int) := by omega
 have KT := hid KS
 have JB := Ks.size
 have Kf := hid QA
 have JC : K0 ≤ 20000000000 := by omega
 have JD : 0 < K0 := by omega
 clear KS QA
 go_wp2_with (first
  | (at_builtin; go_loud (refine wpList_app0 _ rfl _ _ 33 3 .i64 rfl 143 i0 Tryz.underlying33 Tryz.underlying3 hi Qq K W z QW KO.out QY (by omega) rfl _ KR.out rfl KP trivial ?_); intro rb ro cR w3 hrb hrb2 hb3 hRu; have JE := hb3.size)
  | (at_make; go_loud (refine wpList_make_full _ rfl _ _ 33 rfl w.heap.size 143 i0 (.int .u64 0) 1 Tryz.underlying33 hi Qq K .i64 .i64 _ _ K0 rfl rfl KT.out KT.out (by rw [W]; omega) (by simp only [maxLen]; omega) (by simp; omega) ?_); intro w4 hown hgrow))
 have KU : (madeCells (Value.int .u64 0).cells (K0 * 1)).toList = (List.replicate K0 0).map fun x : Nat => Value.int .u64 (x : Int) := by
  rw [Nat.mul_one, List.map_replicate]
  simpa [Value.cells] using toList_madeCells_one (.int .u64 0) K0
 rw [KU] at hown
 obtain ⟨D, d⟩ : ∃ D, D = limbs (n * 2 ^ s) := ⟨_, rfl⟩
 obtain ⟨R0, Kn⟩ : ∃ R0, R0 = limbs (m * 2 ^ s) ++ List.replicate z 0 := ⟨_, rfl⟩
 have KV : D.length = lb := by rw [d]; exact Jg.out
 have KW : H = D.length := by rw [d]; exact QX.out
 have KX : R0.length = L1 + z := by rw [Kn, List.length_append, List.length_replicate, ← KO.out]
 have KY : R0.length = L + 1 := by
  have := KR.out
  omega
 have Kg : val D = n * 2 ^ s := by rw [d]; exact val_limbs _
 have Kt : val R0 = m * 2 ^ s := by rw [Kn, val_append0]; exact val_limbs _
 have KZ : 0 < val D := by rw [Kg]; exact QU
 have K1 : ∀ h : lb - 1 < D.length, 0 < D[lb - 1] := by
  intro h
  exact good_top (by rw [d]; exact good_limbs _) h (by omega)
 rw [← Kn] at hRu
 rw [← d] at Km
 have Kv := Km.small
 obtain ⟨g, hg⟩ : ∃ g, g = w3.heap.size := ⟨_, rfl⟩
 have QZ : w3.heap.size + 1 = g + 1 := by omega
 have bx := Box.new w3 (.slice (some ⟨rb, ro, none⟩) (L1 + z) cR) (.slice (some ⟨T, U, none⟩) H H) 301
 have Kh : Below w3.heap.size w3 (w3.alloc (.cells #[.slice (some ⟨rb, ro, none⟩) (L1 + z) cR, .slice (some ⟨T, U, none⟩) H H] 301)) := (Below.refl _ w3).alloc (Nat.le_refl _) _
 have Ka : Below (w3.alloc (.cells #[.slice (some ⟨rb, ro, none⟩) (L1 + z) cR, .slice (some ⟨T, U, none⟩) H H] 301)).heap.size (w3.alloc (.cells #[.slice (some ⟨rb, ro, none⟩) (L1 + z) cR, .slice (some ⟨T, U, none⟩) H H] 301)) w4 := (Below.refl _ _).grown hgrow (Nat.le_refl _) (fun k h => by cases h)
 have Q0 : w3.heap.size + 1 < w4.heap.size := by
  have := (hown.lt _ rfl).2
  simpa using this
 have K2 : Below w.heap.size w w4 := from_ (from_ (from_ Ks hb3) Kh) Ka
 have Kw := bx.below Ka
 have K3 : U64s w4 (only (w3.heap.size + 1)) (some ⟨w3.heap.size + 1, 0, none⟩) K0 (List.replicate K0 0) := by
  have Q1 : ∀ o, (w3.alloc o).heap.size = w3.heap.size + 1 := fun o => by simp
  rw [Q1] at hown
  exact (isU_after (B := w.heap.size) (Small.replicate0 _) (by simp) hown (Nat.le_refl _)).only_ trivial
 have E : Divr w4 g rb ro cR ⟨fun b => b ≠ rb ∧ b < g, False⟩ (some ⟨T, U, none⟩) H R0 D := by
  refine ⟨by rw [hg, KX]; exact Kw.c0, by rw [hg, ← KW]; exact Kw.c1, ((hRu.below Kh).below Ka), ?_, by omega, fun h => h.1 rfl, by omega⟩
  refine (((Km.zone (Y := ⟨fun b => b ≠ rb ∧ b < g, False⟩) (fun b hb hl => ?_) (fun h => h.elim)).below hb3).below Kh).below Ka
  have F : S.heap.size ≤ b := hb
  refine ⟨?_, by omega⟩
  rcases hrb with h | h <;> omega
 have O := KnuthI.start (D := val D) (n := lb) KY hRu.small Kt (by rw [Kg]; exact Jh.out)
 rw [← Kf.out] at O
 obtain ⟨Kj, QB, KH, QC, JS, KI⟩ := hid6 O E K3 Kg Kt KZ
 obtain ⟨Hg, Jl⟩ := hid2 hg K1
 have JF : rb < g := by omega
 have Q2 : w.heap.size ≤ rb := by
  have F : w.heap.size ≤ b1 := Jk
  rcases hrb with h | h <;> omega
 have K4 := hid Q2
 have JG : w.heap.size ≤ g := by omega
 have J := hid KV
 obtain ⟨qb, KJ⟩ : ∃ qb, qb = w3.heap.size + 1 := ⟨_, rfl⟩
 have JH := hid KJ
 have K5 : qb = g + 1 := by omega
 rw [← KJ] at KH
 rw [← hg, ← K5]
 have K6 : qb < w4.heap.size := by omega
 have JI : g < qb := by omega
 clear O E K3 Kg Kt KZ K1 KV KU hown hgrow Ka bx Kw Kh hRu Km KP Kn d KW KX KY QZ hrb hb3 Ks KG KE KN Qr Qs Qt Qv Ji Jj
 have K7 : val D < 18446744073709551616 ^ lb := by
  have := val_lt Kv
  rwa [J.out] at this
 obtain ⟨Jm, JT⟩ := hid2 K7 Kv
 clear K7 Kv hg KJ K5
 go_loopw [16] (fun iv wr => ∃ (k : Nat) (R Q : List Nat), k ≤ K0 ∧ iv = .int .i64 ((k : Int) - 1) ∧ Hid (KnuthI (m * 2 ^ s) (val D) L lb k R Q) ∧ Hid (Divr wr g rb ro cR ⟨fun b => b ≠ rb ∧ b < g, False⟩ (some ⟨T, U, none⟩) H R D) ∧ Hid (U64s wr (only qb) (some ⟨qb, 0, none⟩) K0 Q) ∧ Below w.heap.size w wr ∧ qb < wr.heap.size) (fun iv _ => (intOf iv + 1).toNat)
 case atStart => exact ⟨K0, R0, List.replicate K0 0, Nat.le_refl _, rfl, Kj, QB, KH, K2, K6⟩
 case round =>
  clear Kj QB KH K2 Q0 K6
  obtain ⟨k, R, Q, hk, rfl, G, E, I, N, i⟩ := hrel
  match k, hk, G with
  | 0, hk, G =>
    have e0 : (((0 : Nat) : Int) - 1) = -1 := rfl
    rw [e0]
    obtain ⟨KK, Ko⟩ := G.out.done
    obtain ⟨QD, QE⟩ := scaled m n (2 ^ s) (Nat.pow_pos (by omega))
    rw [QC.out, QD] at KK
    rw [QC.out, QE] at Ko
    have Kb : Q.length = K0 := by rw [G.out.lenQ, ← Kf.out]
    have c0 := E.out.c0
    have K8 := dtrim_any E.out.own
    have hR := isN_trimU Ko E.out.own
    have K9 := len_val_le E.out.own.small
    rw [Ko] at K9
    have Q4 := E.out.max
    have Kx := down_good (b := s) hR (by omega) (by omega)
    rw [Nat.mul_div_cancel _ (Nat.pow_pos (by omega))] at Kx
    have Ky := fun (w9 : World) (h : Below wr.heap.size wr w9) => dtrim_any (I.out.below h)
    rw [Kb] at Ky
    have JJ := hid G.out.lenR
    generalize R.length = nR at *
    generalize (limbs (val R)).length = lr at *
    obtain ⟨Jn, Jo, Jp, Jq, Jr⟩ := hid5 K8 Kx Ky KK I.out
    have JK : w.heap.size ≤ qb := by omega
    clear K8 Kx Ky KK Ko QD QE Kb hR K9 G E I Q4
    go_wp2_with fail
    with_reducible refine Jn.out.mono ?_
    rintro e w5 ⟨rfl, rfl⟩
    go_wp2_with fail
    with_reducible refine Jo.out.mono ?_
    rintro e w6 ⟨v, rfl, hv, KL⟩
    have Ki := from_ N KL
    go_wp2_with fail
    with_reducible refine (Jp.out _ KL).mono ?_
    rintro e w7 ⟨rfl, rfl⟩
    go_wp2
    go_ret3
    exact ⟨_, _, rfl, (isN_trimU Jq.out (Jr.out.below KL)).mono ⟨fun b hb => by have F : b = qb := hb; show w.heap.size ≤ b; omega, fun h => h⟩, hv.mono (new_le N.size), Ki⟩
  | k + 1, hk, G =>
    have e0 : (((k + 1 : Nat) : Int) - 1) = (k : Int) := by omega
    rw [e0]
    have Qa := G.out.lenR
    have Kb := G.out.lenQ
    have hz := zero_of_val_lt (k := k + lb + 1) G.out.smallR (by
     refine Nat.lt_of_lt_of_le G.out.lt ?_
     rw [show k + lb + 1 = lb + (k + 1) by omega, Nat.pow_add _ lb (k + 1)]
     exact Nat.mul_le_mul_right _ (Nat.le_of_lt Jm.out))
    have Q5 := digit_lt KI.out G.out.lt
    obtain ⟨mm, QF⟩ : ∃ mm, lb = mm + 2 := ⟨lb - 2, by omega⟩
    have Qb : k + lb < R.length := by have := Kf.out; omega
    have Qc := guess_any (a := k) (m := mm) E.out (by rw [J.out]; exact QF) (by omega) (fun j hj h => hz j hj (by omega)) Q5 (fun h => by
     have F : mm + 1 = lb - 1 := by omega
     have h2 := Jl.out (by rw [J.out]; omega)
     have h3 : D[mm + 1] = D[lb - 1]'(by rw [J.out]; omega) := by congr 1
     omega)
    obtain ⟨QG, Js, Jt, Hz⟩ := hid4 Qc Qa Kb hz
    clear Qc Qa Kb hz QF
    go_wp2_with fail
    with_reducible refine QG.out.mono ?_
    rintro e w5 ⟨q, rfl, hq, QH, Kc⟩
    have Kz := E.out.below Kc
    have Qd := hid (I.out.below Kc)
    have Qe := from_ N Kc
    have Qf : qb < w5.heap.size := Nat.lt_of_lt_of_le i Kc.size
    have Qg := take_any (q := q) (a := k) Kz hq (by rw [J.out]; exact Qb)
    obtain ⟨QI, QJ⟩ := hid2 Qg Kz
    clear Qg Kz Kc N i QG E I
    go_wp2_with fail
    with_reducible refine QI.out.mono ?_
    rintro e w6 ⟨less, R1, rfl, C⟩
    have hP : 0 < val D * 18446744073709551616 ^ k := Nat.mul_pos KI.out (Nat.pow_pos (by omega))
    have K : ∀ j (h : j < R1.length), k + lb + 1 ≤ j → R1[j] = 0 := fun j h hj =>
     (C.same j h (by rw [← C.len]; exact h) (by rw [J.out]; omega)).trans (Hz.out j (by rw [← C.len]; exact h) hj)
    have Qh := val_lt_of_zero C.small K
    have M := GiveI.taken (X := val R) (P := val D * 18446744073709551616 ^ k) (top := 18446744073709551616 ^ (k + lb + 1)) hP QH Qh C.one (by
     have F := C.eq
     rw [J.out, Nat.mul_assoc] at F
     exact F)
    obtain ⟨QK, QL⟩ := hid2 (QJ.out.just C.just C.len C.own) (C.just.words (show ¬ (only qb).blk rb from fun h => by have F : rb = qb := h; omega) Qd.out)
    have Ki : Below w.heap.size w w6 := Qe.trans (C.just.below (by have := K4.out; omega) (Nat.le_of_lt (by omega)))
    have Qi : qb < w6.heap.size := Nat.lt_of_lt_of_le Qf C.just.size
    have Qj := C.len
    obtain ⟨HG, QM, QN, HP⟩ := hid4 M K Qj hP
    clear M K Qj C Qh QI QJ Qd Qe Qf hP QH
    go_wp2
    go_loopw [17, 18] (fun nv mv wr => ∃ (qn : Nat) (Kp : Bool) (V : List Nat), nv = .int .u64 (qn : Int) ∧ mv = .bool Kp ∧ Hid (GiveI (val R) (val D * 18446744073709551616 ^ k) (18446744073709551616 ^ (k + lb + 1)) qn (val V) Kp) ∧ Hid (V.length = R.length) ∧ Hid (Divr wr g rb ro cR ⟨fun b => b ≠ rb ∧ b < g, False⟩ (some ⟨T, U, none⟩) H V D) ∧ Hid (∀ j (h : j < V.length), k + lb + 1 ≤ j → V[j] = 0) ∧ Hid (U64s wr (only qb) (some ⟨qb, 0, none⟩) K0 Q) ∧ Below w.heap.size w wr ∧ qb < wr.heap.size ∧ qn < 18446744073709551616) (fun nv _ _ => (intOf nv).toNat)
    case atStart => exact ⟨q, _, R1, rfl, rfl, HG, QN, QK, QM, QL, Ki, Qi, hq⟩
    case round =>
     clear HG QN QK QM QL Ki Qi hq
     obtain ⟨qn, Kp, V, rfl, rfl, M, Kd, E, K, I, N, i, hq⟩ := hrel
     cases Kp with
     | true =>
       have F : 1 ≤ qn := Nat.lt_of_le_of_lt (Nat.zero_le _) (M.out.yes rfl).1
       obtain ⟨q1, QO⟩ : ∃ q1, q1 = qn - 1 := ⟨_, rfl⟩
       have f4 : IntKind.u64.wrap ((qn : Int) - 1) = (q1 : Int) := by rw [IntKind.wrap_u64]; omega
       have JL : q1 < qn := by omega
       have Qk := dback_any (a := k) E.out (by rw [J.out, Kd.out]; exact Qb)
       obtain ⟨QP, Jv⟩ := hid2 Qk QO
       clear Qk QO
       go_wp2_with fail
       with_reducible refine QP.out.mono ?_
       rintro e w7 ⟨c, R2, rfl, C⟩
       have W : ∀ j (h : j < R2.length), k + lb + 1 ≤ j → R2[j] = 0 := fun j h hj =>
        (C.same j h (by rw [← C.len]; exact h) (by rw [J.out]; omega)).trans (K.out j (by rw [← C.len]; exact h) hj)
       have Ql := val_lt_of_zero C.small W
       obtain ⟨_, KM⟩ := GiveI.back HP.out M.out Ql C.one (by
        have F := C.eq
        rw [J.out] at F
        exact F)
       rw [← Jv.out] at KM
       obtain ⟨Jw, Jx, Jy⟩ := hid3 KM (E.out.just C.just C.len C.own) (C.just.words (show ¬ (only qb).blk rb from fun h => by have F : rb = qb := h; omega) I.out)
       have Q6 : Below w.heap.size w w7 := N.trans (C.just.below (by have := K4.out; omega) (Nat.le_of_lt (by omega)))
       have Q7 : qb < w7.heap.size := Nat.lt_of_lt_of_le i C.just.size
       have Q8 : Hid (R2.length = R.length) := C.len.trans Kd.out
       have Q9 := hid W
       clear KM C Ql W QP M Kd E K I N i
       go_wp2
       go_roundw
       case rel => exact ⟨q1, _, R2, rfl, rfl, Jw, Q8, Jx, Q9, Jy, Q6, Q7, by omega⟩
       case measure => simp [intOf]; omega
     | false =>
       obtain ⟨QQ, QR⟩ := M.out.no rfl
       have KA : k < Q.length := by have := Jt.out; have := Kf.out; omega
       have O := G.out.step KI.out KA (Kd.out.trans Js.out) E.out.own.small QR
       rw [← QQ] at O
       have Kj := hid O
       have Ja := I.out.cellAt KA
       have Jb := I.out.frozenAt trivial (by omega) k
       have KB := I.out.store KA hq
       rw [Nat.zero_add] at Ja Jb KB
       have Jc := hid KB
       have hJ : Just qb wr (wr.setCell ⟨qb, k, none⟩ (.int .u64 (qn : Int))) := (Just.refl qb wr).setCell k (.int .u64 (qn : Int))
       have Jd := hid (E.out.other hJ (by omega) (by omega) (fun h => by have := h.2; omega))
       have JM : k < K0 := by omega
       have Je := N.setCell (p := ⟨qb, k, none⟩) (by show w.heap.size ≤ qb; omega) (.int .u64 (qn : Int))
       generalize Q[k] = old1 at *
       clear QQ QR O KB hJ M Kd E K I G
       go_wp2
       go_roundw
       case rel => exact ⟨k, V, _, by omega, rfl, Kj, Jd, Jc, Je, by simpa [World.setCell] using i⟩
       case measure => simp [intOf]
end Go.Proofs.YtdncgncijbnjpaaGreat
