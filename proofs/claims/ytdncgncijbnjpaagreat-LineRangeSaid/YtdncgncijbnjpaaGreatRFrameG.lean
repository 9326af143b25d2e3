/- Arguments of the statements, opened: rows of ints, expressions, graphs. Conditions: nothing weighs more than may be reached. -/
import Derived.SizedLaws
import Derived.Test.YtdncgncijbnjpaaGreatRWhV
import Derived.Test.YtdncgncijbnjpaaGreatRLpC
set_option linter.unusedVariables false
set_option linter.unusedSimpArgs false
set_option maxRecDepth 100000
set_option maxHeartbeats 40000000
namespace Go.Proofs.YtdncgncijbnjpaaGreat
open Go.ChangeShapes Go.WideShapes Go.ChangeAt Go.RowKit
variable {W : World} {b0 base fuel : Nat} {cs : List Value} {held : Bool} {t td tdo te tk tl tn ts : TypeId} {x : Value}
theorem weightsEach_mem {H : Type} {P : Program} {n : Nat} : ∀ {ts : List TypeId} {ds : List (DataW H)} {i : Nat} {t : TypeId} {d : DataW H}, ts[i]? = some t → ds[i]? = some d → n ∈ d.weights P t → n ∈ DataW.weightsEach P ts ds
 | [], _, _, _, _, h, _, _ => by simp at h
 | _ :: _, [], _, _, _, _, h, _ => by simp at h
 | t' :: ts, d' :: ds, 0, t, d, h1, h2, h => by
   simp at h1 h2
   subst h1 h2
   rw [DataW.weightsEach]
   exact List.mem_append_left _ h
 | t' :: ts, d' :: ds, i + 1, t, d, h1, h2, h => by
   rw [DataW.weightsEach]
   exact List.mem_append_right _ (weightsEach_mem (i := i) (by simpa using h1) (by simpa using h2) h)
theorem weightsAll_mem {H : Type} {P : Program} {n : Nat} {e : TypeId} : ∀ {ds : List (DataW H)} {i : Nat} {d : DataW H}, ds[i]? = some d → n ∈ d.weights P e → n ∈ DataW.weightsAll P e ds
 | [], _, _, h, _ => by simp at h
 | d' :: ds, 0, d, h2, h => by
   simp at h2
   subst h2
   rw [DataW.weightsAll]
   exact List.mem_append_left _ h
 | d' :: ds, i + 1, d, h2, h => by
   rw [DataW.weightsAll]
   exact List.mem_append_right _ (weightsAll_mem (i := i) (by simpa using h2) h)
def Light {H : Type} (P : Program) (t : TypeId) (d : DataW H) : Prop := ∀ n ∈ d.weights P t, n ≤ 140737488355328
def FieldAt (P : Program) (fs : Array Field) (i off : Nat) (ty : TypeId) (k : Nat) : Prop := ∃ f, fs[i]? = some f ∧ f.offset = off ∧ f.type = ty ∧ P.cellsOf ty = k
theorem field_trod {H : Type} {enc : TypeId × Value → H} {P : Program} {ty : TypeId} {fs : Array Field} {xs : List (DataW H × List MemPlace)} {n i off k : Nat} (ht : P.underlying t = some (.struct fs)) (hw : Light P t (.agg (xs.map (·.1)))) (hlen : xs.length = fs.size)
  (hfs : ∀ (i : Nat) (f : Field), fs[i]? = some f → DataW.trod enc P W base (fun _ => true) held n f.type ((cs.drop f.offset).take (P.cellsOf f.type)) = xs[i]?) (F : FieldAt P fs i off ty k) :
  ∃ y, DataW.trod enc P W base (fun _ => true) held n ty ((cs.drop off).take k) = some y ∧ Light P ty y.1 := by
 obtain ⟨f, A, rfl, rfl, rfl⟩ := F
 obtain ⟨y, B⟩ := some_at hlen (lt_of_at A)
 refine ⟨y, by rw [hfs i f A, B], fun m hm => hw m ?_⟩
 unfold DataW.weights
 rw [ht]
 refine weightsEach_mem (i := i) (t := f.type) (d := y.1) ?_ (by simp [B]) hm
 rw [List.getElem?_map, Array.getElem?_toList, A]
 rfl
theorem open_rowC {H : Type} {enc : TypeId × Value → H} {P : Program} {x : DataW H × List MemPlace} (hl : P.underlying tl = some (.slice tn)) (hi : P.underlying tn = some (.int .i64)) (hc1 : P.cellsOf tn = 1)
  (hf : DataW.trod enc P W base (fun _ => true) held fuel tl cs = some x) : ∃ A c n, ∃ sz : Nat → Int, cs = [.slice A n c] ∧ RowK 1 W A c n (fun j _ => .int .i64 (sz j)) := by
 rcases DataW.trod_slice hl hf with ⟨C, _⟩ | ⟨a, len, cap, elems, rest, n, _, rfl, rfl, hb, hle, hm, hlen, hel, _, _⟩
 · exact ⟨none, 0, 0, fun _ => 0, C, RowK.nil 1 W _⟩
 by_cases h0 : len = 0
 · subst h0
   exact ⟨some a, cap, 0, fun _ => 0, rfl, by omega, by simpa [maxLen] using hm, fun h => absurd h (by omega)⟩
 have E : ∀ j, j < len → ∃ z : Int, W.cell? ((a.add (j * 1)).add 0) = some (.int .i64 z) := by
  intro j hjl
  have B := hel j hjl
  have I : elems[j]? = some (elems[j]'(by omega)) := List.getElem?_eq_getElem (by omega)
  rw [I, Option.bind_eq_some_iff] at B
  obtain ⟨L, C, J⟩ := B
  obtain ⟨z, rfl, _, _⟩ := DataW.trod_int hi J
  rw [hc1] at C
  obtain ⟨_, _, K⟩ := World.cells?_some C
  exact ⟨z, K 0 (by omega)⟩
 have F : a.spot = none := by
  obtain ⟨z, B⟩ := E 0 (by omega)
  simpa [Addr.add] using World.cell?_spot B
 obtain ⟨b, o, spot⟩ := a
 simp only at F
 subst F
 obtain ⟨D, M, G⟩ := list_of_each (R := fun j (z : Int) => W.cell? ⟨b, o + j, none⟩ = some (.int .i64 z)) len (fun j hj => by
  obtain ⟨z, B⟩ := E j hj
  simp only [Addr.add_lit, Nat.mul_one, Nat.add_zero] at B
  exact ⟨z, B⟩)
 refine ⟨some ⟨b, o, none⟩, cap, len, fun j => (D[j]?).getD 0, rfl, hle, by simpa [maxLen] using hm, fun _ => ⟨b, o, rfl, lt_of_cell (G 0 (by omega)), fun j hj i hi => ?_⟩⟩
 obtain rfl : i = 0 := by omega
 have h := G j (by omega)
 have e : (D[j]?).getD 0 = D[j] := by rw [List.getElem?_eq_getElem (by omega)]; rfl
 rw [Nat.mul_one, Nat.add_zero, h]
 show _ = some (Value.int .i64 ((D[j]?).getD 0))
 rw [e]
structure ExT (P : Program) (t tl ts tn tk : TypeId) (fs : Array Field) : Prop where
 ht : P.underlying t = some (.struct fs)
 hn : P.cellsOf t = 5
 f0 : FieldAt P fs 0 0 tk 1
 f1 : FieldAt P fs 1 1 ts 1
 f2 : FieldAt P fs 2 2 tn 1
 f3 : FieldAt P fs 3 3 tl 1
 f4 : FieldAt P fs 4 4 tn 1
 hk : P.underlying tk = some (.int .u8)
 hs : P.underlying ts = some .string
 hi : P.underlying tn = some (.int .i64)
 hl : P.underlying tl = some (.slice t)
def ExR (W : World) (d : Nat) (y : Ex × Option Addr × Nat) : Prop := ExsAt W d y.2.1 y.2.2 y.1.l ∧ (y.1.nm.size ≤ 140737488355328 ∧ nmL d y.1.l) ∧ i64E (d + 1) y.1
def exCs (y : Ex × Option Addr × Nat) : List Value := [.int .u8 y.1.k, .string y.1.nm, .int .i64 y.1.n, .slice y.2.1 y.1.l.length y.2.2, .int .i64 y.1.p]
theorem exs_nil {A : Option Addr} {c : Nat} (hc : c ≤ 9223372036854775807) : ∀ d, ExsAt W d A c []
 | 0 => ⟨rfl, hc⟩
 | d + 1 => ⟨fun _ => none, fun _ => 0, ⟨Nat.zero_le _, hc, fun h => absurd h (by simp)⟩, fun j hj => absurd hj (by simp)⟩
theorem nmL_nil : ∀ d, nmL d []
 | 0 => trivial
 | d + 1 => fun x hx => absurd hx (by simp)
theorem list5 (h : cs.length = 5) : ∃ a b c d e, cs = [a, b, c, d, e] := by
 match cs, h with
 | [a, b, c, d, e], _ => exact ⟨a, b, c, d, e, rfl⟩
theorem open_exC {H : Type} {enc : TypeId × Value → H} {P : Program} {fs : Array Field} (E : ExT P t tl ts tn tk fs) : ∀ (fuel : Nat),
  (∀ (cs : List Value) (x : DataW H × List MemPlace), DataW.trod enc P W base (fun _ => true) held fuel t cs = some x → Light P t x.1 → ∃ y m, fuel = m + 1 ∧ cs = exCs y ∧ ExR W (m / 2) y) ∧
  (∀ (cs : List Value) (x : DataW H × List MemPlace), DataW.trod enc P W base (fun _ => true) held fuel tl cs = some x → Light P tl x.1 → ∃ A c l, cs = [.slice A (l : List Ex).length c] ∧ ExsAt W (fuel / 2) A c l ∧ nmL (fuel / 2) l ∧ ∀ y ∈ l, i64E (fuel / 2) y) := by
 intro fuel
 induction fuel with
 | zero => exact ⟨fun cs x h => by simp [DataW.trod] at h, fun cs x h => by simp [DataW.trod] at h⟩
 | succ n ih =>
   refine ⟨fun cs x h hw => ?_, fun cs x h hw => ?_⟩
   · obtain ⟨xs, G, f, rfl, hl, I, K⟩ := DataW.trod_struct E.ht h
     obtain rfl : G = n := by omega
     rw [E.hn] at hl
     obtain ⟨a0, a1, a2, a3, a4, rfl⟩ := list5 hl
     obtain ⟨y0, g, _⟩ := field_trod E.ht hw I K E.f0
     obtain ⟨y1, q, r⟩ := field_trod E.ht hw I K E.f1
     obtain ⟨y2, u, _⟩ := field_trod E.ht hw I K E.f2
     obtain ⟨y3, e3, w3⟩ := field_trod E.ht hw I K E.f3
     obtain ⟨y4, e4, _⟩ := field_trod E.ht hw I K E.f4
     obtain ⟨k, M, _, _⟩ := DataW.trod_int E.hk g
     obtain ⟨s, F, q1, _⟩ := DataW.trod_string E.hs q
     obtain ⟨z, T, _, b2⟩ := DataW.trod_int E.hi u
     obtain ⟨A, c, l, U, r1, r2, r3⟩ := ih.2 _ _ e3 w3
     obtain ⟨p, V, _, _⟩ := DataW.trod_int E.hi e4
     simp at M F T U V
     subst M F T U V
     have X : s.size ≤ 140737488355328 := by
      refine r _ ?_
      rw [q1]
      first | (simp [DataW.weights]; done) | (simp [DataW.weights]; rfl)
     exact ⟨(.mk k s z l p, A, c), G, rfl, rfl, r1, ⟨X, r2⟩, bounds_i64 b2, r3⟩
   · rcases DataW.trod_slice E.hl h with ⟨N, _⟩ | ⟨a, len, cap, elems, rest, G, f, rfl, rfl, hb, hle, hm, I, hel, _, _⟩
     · exact ⟨none, 0, [], N, exs_nil (by omega) _, nmL_nil _, fun y D => absurd D (by simp)⟩
     obtain rfl : G = n := by omega
     by_cases M : len = 0
     · subst M
       exact ⟨some a, cap, [], rfl, exs_nil (by simpa [maxLen] using hm) _, nmL_nil _, fun y D => absurd D (by simp)⟩
     have O : ∀ j, j < len → ∃ y : Ex × Option Addr × Nat, (∃ m, G = m + 1 ∧ ExR W (m / 2) y) ∧ ∀ i, i < 5 → ∀ v, (exCs y)[i]? = some v → W.cell? ((a.add (j * 5)).add i) = some v := by
      intro j hjl
      have F := hel j hjl
      have D : elems[j]? = some (elems[j]'(by omega)) := List.getElem?_eq_getElem (by omega)
      rw [D, Option.bind_eq_some_iff] at F
      obtain ⟨Kb, N, ht⟩ := F
      obtain ⟨y, m, rfl, rfl, Q⟩ := ih.1 _ _ ht (fun w hw' => hw w (by
       unfold DataW.weights
       rw [E.hl]
       refine List.mem_cons_of_mem _ (List.mem_append_left _ (weightsAll_mem (i := j) (by first | (simp [D]; done) | (simp [D]; rfl)) hw'))))
      rw [E.hn] at N
      obtain ⟨_, _, hc⟩ := World.cells?_some N
      refine ⟨y, ⟨m, rfl, Q⟩, fun i hi v hv => ?_⟩
      have h := hc i hi
      rw [h]
      exact hv
     obtain ⟨m, rfl⟩ : ∃ m, G = m + 1 := by
      obtain ⟨y, ⟨m, h, _⟩, _⟩ := O 0 (by omega)
      exact ⟨m, h⟩
     have S : a.spot = none := by
      obtain ⟨y, _, F⟩ := O 0 (by omega)
      simpa [Addr.add] using World.cell?_spot (F 0 (by omega) _ rfl)
     obtain ⟨b, o, spot⟩ := a
     simp only at S
     subst S
     obtain ⟨B, Ka, L⟩ := list_of_each (R := fun j (y : Ex × Option Addr × Nat) => ExR W (m / 2) y ∧ ∀ i, i < 5 → ∀ v, (exCs y)[i]? = some v → W.cell? ⟨b, o + j * 5 + i, none⟩ = some v) len (fun j C => by
      obtain ⟨y, ⟨m', Kc, Q⟩, F⟩ := O j C
      obtain rfl : m' = m := by omega
      simp only [Addr.add_lit] at F
      exact ⟨y, Q, F⟩)
     have Y : (m + 1 + 1) / 2 = m / 2 + 1 := by omega
     have Z : (B.map (·.1)).length = len := by rw [List.length_map, Ka]
     have d : ∀ j (C : j < (B.map (·.1)).length), (B.map (·.1))[j] = (B[j]'(by simpa using C)).1 := fun j C => by simp
     rw [Y]
     refine ⟨some ⟨b, o, none⟩, cap, B.map (·.1), by rw [Z], ⟨fun j => ((B[j]?).map (·.2.1)).getD none, fun j => ((B[j]?).map (·.2.2)).getD 0, ⟨by omega, by simpa [maxLen] using hm, fun _ => ⟨b, o, rfl, lt_of_cell ((L 0 (by omega)).2 0 (by omega) _ rfl), fun j C i hi => ?_⟩⟩, fun j C => ?_⟩, fun x hx => ?_, fun x hx => ?_⟩
     · have J : j < B.length := by simpa using C
       refine (L j J).2 i hi _ ?_
       have e : B[j]? = some B[j] := List.getElem?_eq_getElem J
       rcases i with _ | _ | _ | _ | _ | i
       · simp [exCs, exC, e]
       · simp [exCs, exC, e]
       · simp [exCs, exC, e]
       · simp [exCs, exC, e]
       · simp [exCs, exC, e]
       · omega
     · have J : j < B.length := by simpa using C
       have e : B[j]? = some B[j] := List.getElem?_eq_getElem J
       rw [d j C]
       show ExsAt W (m / 2) (((B[j]?).map (·.2.1)).getD none) (((B[j]?).map (·.2.2)).getD 0) _
       rw [e]
       exact (L j J).1.1
     · obtain ⟨y, D, rfl⟩ := List.mem_map.1 hx
       obtain ⟨j, C, rfl⟩ := List.getElem_of_mem D
       exact (L j C).1.2.1
     · obtain ⟨y, D, rfl⟩ := List.mem_map.1 hx
       obtain ⟨j, C, rfl⟩ := List.getElem_of_mem D
       exact (L j C).1.2.2
structure EdT (P : Program) (t te td tdo tl tn tk : TypeId) (gs hs : Array Field) : Prop where
 hg : P.underlying te = some (.struct gs)
 hgn : P.cellsOf te = 7
 g0 : FieldAt P gs 0 0 tn 1
 g1 : FieldAt P gs 1 1 tn 1
 g2 : FieldAt P gs 2 2 tdo 4
 g3 : FieldAt P gs 3 6 tn 1
 hd : P.underlying tdo = some (.struct hs)
 d0 : FieldAt P hs 0 0 tk 1
 d1 : FieldAt P hs 1 1 tn 1
 d2 : FieldAt P hs 2 2 tk 1
 d3 : FieldAt P hs 3 3 tl 1
 hl : P.underlying td = some (.slice te)
def edCs (y : Ed × Option Addr × Nat) : List Value := [.int .i64 y.1.f, .int .i64 y.1.t, .int .u8 y.1.k, .int .i64 y.1.n, .int .u8 y.1.cmp, .slice y.2.1 y.1.l.length y.2.2, .int .i64 y.1.p]
theorem list7 (h : cs.length = 7) : ∃ a b c d e f g, cs = [a, b, c, d, e, f, g] := by
 match cs, h with
 | [a, b, c, d, e, f, g], _ => exact ⟨a, b, c, d, e, f, g, rfl⟩
theorem open_edC {H : Type} {enc : TypeId × Value → H} {P : Program} {fs gs hs : Array Field} (E : ExT P t tl ts tn tk fs) (D : EdT P t te td tdo tl tn tk gs hs) {x : DataW H × List MemPlace} (h : DataW.trod enc P W base (fun _ => true) held fuel te cs = some x) (hw : Light P te x.1) :
  ∃ y m, fuel = m + 2 ∧ cs = edCs y ∧ ExsAt W (m / 2) y.2.1 y.2.2 y.1.l ∧ nmL (m / 2) y.1.l := by
 obtain ⟨q, n, rfl, rfl, J, B, C⟩ := DataW.trod_struct D.hg h
 rw [D.hgn] at J
 obtain ⟨r, s, u, v, z, a5, a6, rfl⟩ := list7 J
 obtain ⟨y0, K, _⟩ := field_trod D.hg hw B C D.g0
 obtain ⟨y1, L, _⟩ := field_trod D.hg hw B C D.g1
 obtain ⟨y2, M, F⟩ := field_trod D.hg hw B C D.g2
 obtain ⟨y3, N, _⟩ := field_trod D.hg hw B C D.g3
 simp at K L M N
 obtain ⟨zs, m, rfl, rfl, _, G, I⟩ := DataW.trod_struct D.hd M
 obtain ⟨u0, X, _⟩ := field_trod D.hd F G I D.d0
 obtain ⟨u1, Y, _⟩ := field_trod D.hd F G I D.d1
 obtain ⟨u2, Z, _⟩ := field_trod D.hd F G I D.d2
 obtain ⟨u3, a, b⟩ := field_trod D.hd F G I D.d3
 obtain ⟨f, O, _, _⟩ := DataW.trod_int E.hi K
 obtain ⟨d, Q, _, _⟩ := DataW.trod_int E.hi L
 obtain ⟨p, R, _, _⟩ := DataW.trod_int E.hi N
 obtain ⟨k, S, _, e⟩ := DataW.trod_int E.hk X
 obtain ⟨nn, T, _, _⟩ := DataW.trod_int E.hi Y
 obtain ⟨g, U, _, _⟩ := DataW.trod_int E.hk Z
 obtain ⟨A, c, l, V, i, j, _⟩ := (open_exC E m).2 _ _ a b
 simp at O Q S T U V R
 subst O Q S T U V R
 have o := bounds_u8 e
 refine ⟨(⟨f, d, k.toNat, nn, g, l, p⟩, A, c), m, rfl, ?_, i, j⟩
 simp [edCs]
 omega
def EdsR (W : World) (A : Option Addr) (c d : Nat) (es : List Ed) : Prop := ∃ AA CC, EdsAt W d A c es AA CC ∧ ∀ e ∈ es, nmL d e.l
theorem open_edsC {H : Type} {enc : TypeId × Value → H} {P : Program} {fs gs hs : Array Field} (E : ExT P t tl ts tn tk fs) (D : EdT P t te td tdo tl tn tk gs hs) {x : DataW H × List MemPlace} (h : DataW.trod enc P W base (fun _ => true) held fuel td cs = some x) (hw : Light P td x.1) :
  ∃ A c d es, cs = [.slice A (es : List Ed).length c] ∧ EdsR W A c d es := by
 rcases DataW.trod_slice D.hl h with ⟨J, _⟩ | ⟨a, len, cap, elems, rest, n, hn', rfl, rfl, hb, hle, hm, hlen, hel, _, _⟩
 · exact ⟨none, 0, 0, [], J, fun _ => none, fun _ => 0, ⟨RowK.nil 7 W _, fun j C => absurd C (by simp)⟩, fun e he => absurd he (by simp)⟩
 by_cases h0 : len = 0
 · subst h0
   exact ⟨some a, cap, 0, [], rfl, fun _ => none, fun _ => 0, ⟨⟨Nat.zero_le _, by simpa [maxLen] using hm, fun h => absurd h (by simp)⟩, fun j C => absurd C (by simp)⟩, fun e he => absurd he (by simp)⟩
 have L : ∀ j, j < len → ∃ y : Ed × Option Addr × Nat, (∃ m, n = m + 2 ∧ ExsAt W (m / 2) y.2.1 y.2.2 y.1.l ∧ nmL (m / 2) y.1.l) ∧ ∀ i, i < 7 → ∀ v, (edCs y)[i]? = some v → W.cell? ((a.add (j * 7)).add i) = some v := by
  intro j hjl
  have F := hel j hjl
  have G : elems[j]? = some (elems[j]'(by omega)) := List.getElem?_eq_getElem (by omega)
  rw [G, Option.bind_eq_some_iff] at F
  obtain ⟨X, J, S⟩ := F
  obtain ⟨y, m, rfl, rfl, M⟩ := open_edC E D S (fun w hw' => hw w (by
   unfold DataW.weights
   rw [D.hl]
   refine List.mem_cons_of_mem _ (List.mem_append_left _ (weightsAll_mem (i := j) (by first | (simp [G]; done) | (simp [G]; rfl)) hw'))))
  rw [D.hgn] at J
  obtain ⟨_, _, T⟩ := World.cells?_some J
  refine ⟨y, ⟨m, rfl, M⟩, fun i hi v hv => ?_⟩
  have h := T i hi
  rw [h]
  exact hv
 obtain ⟨m, rfl⟩ : ∃ m, n = m + 2 := by
  obtain ⟨y, ⟨m, h, _⟩, _⟩ := L 0 (by omega)
  exact ⟨m, h⟩
 have N : a.spot = none := by
  obtain ⟨y, _, F⟩ := L 0 (by omega)
  simpa [Addr.add] using World.cell?_spot (F 0 (by omega) _ rfl)
 obtain ⟨b, o, spot⟩ := a
 simp only at N
 subst N
 obtain ⟨B, U, K⟩ := list_of_each (R := fun j (y : Ed × Option Addr × Nat) => (ExsAt W (m / 2) y.2.1 y.2.2 y.1.l ∧ nmL (m / 2) y.1.l) ∧ ∀ i, i < 7 → ∀ v, (edCs y)[i]? = some v → W.cell? ⟨b, o + j * 7 + i, none⟩ = some v) len (fun j C => by
  obtain ⟨y, ⟨V, Y, M⟩, F⟩ := L j C
  obtain rfl : V = m := by omega
  simp only [Addr.add_lit] at F
  exact ⟨y, M, F⟩)
 have O : (B.map (·.1)).length = len := by rw [List.length_map, U]
 refine ⟨some ⟨b, o, none⟩, cap, m / 2, B.map (·.1), by rw [O], fun j => ((B[j]?).map (·.2.1)).getD none, fun j => ((B[j]?).map (·.2.2)).getD 0, ⟨⟨by omega, by simpa [maxLen] using hm, fun _ => ⟨b, o, rfl, lt_of_cell ((K 0 (by omega)).2 0 (by omega) _ rfl), fun j C i hi => ?_⟩⟩, fun j C => ?_⟩, fun x hx => ?_⟩
 · have I : j < B.length := by simpa using C
   refine (K j I).2 i hi _ ?_
   have e : B[j]? = some B[j] := List.getElem?_eq_getElem I
   rcases i with _ | _ | _ | _ | _ | _ | _ | i
   · simp [edCs, edC, e]
   · simp [edCs, edC, e]
   · simp [edCs, edC, e]
   · simp [edCs, edC, e]
   · simp [edCs, edC, e]
   · simp [edCs, edC, e]
   · simp [edCs, edC, e]
   · omega
 · have I : j < B.length := by simpa using C
   have e : B[j]? = some B[j] := List.getElem?_eq_getElem I
   have Q : (B.map (·.1))[j] = B[j].1 := by simp
   rw [Q]
   show ExsAt W (m / 2) (((B[j]?).map (·.2.1)).getD none) (((B[j]?).map (·.2.2)).getD 0) _
   rw [e]
   exact (K j I).1.1
 · obtain ⟨y, G, rfl⟩ := List.mem_map.1 hx
   obtain ⟨j, C, rfl⟩ := List.getElem_of_mem G
   exact (K j C).1.2
structure GrT (P : Program) (tg ta td tn : TypeId) (fs : Array Field) : Prop where
 ht : P.underlying tg = some (.struct fs)
 hn : P.cellsOf tg = 6
 f0 : FieldAt P fs 0 0 tn 1
 f1 : FieldAt P fs 1 1 ta 1
 f2 : FieldAt P fs 2 2 tn 1
 f3 : FieldAt P fs 3 3 tn 1
 f4 : FieldAt P fs 4 4 tn 1
 f5 : FieldAt P fs 5 5 td 1
 ha : P.underlying ta = some (.slice tn)
 hc : P.cellsOf tn = 1
structure GrR (W : World) (v : Value) (V no st la : Int) (Aa : Option Addr) (na ca : Nat) (EA : Option Addr) (ce : Nat) (sz : Nat → Int) (d : Nat) (es : List Ed) : Prop where
 v : v = .agg #[.int .i64 V, .slice Aa na ca, .int .i64 no, .int .i64 st, .int .i64 la, .slice EA es.length ce]
 a : RowK 1 W Aa ca na (fun j _ => .int .i64 (sz j))
 e : EdsR W EA ce d es
theorem list6 (h : cs.length = 6) : ∃ a b c d e f, cs = [a, b, c, d, e, f] := by
 match cs, h with
 | [a, b, c, d, e, f], _ => exact ⟨a, b, c, d, e, f, rfl⟩
theorem open_graph {H : Type} {enc : TypeId × Value → H} {P : Program} {r : Reach} {tg ta : TypeId} {fs gs hs qs : Array Field} {d : DataW H} {p : List MemPlace} (E : ExT P t tl ts tn tk fs) (D : EdT P t te td tdo tl tn tk gs hs) (G : GrT P tg ta td tn qs)
  (hw : Value.okWide P W r b0 tg x) (h : DataW.Trod enc P W base (fun _ => true) held tg x d p) (hl : Light P tg d) : ∃ V no st la Aa na ca EA ce sz dd es, GrR W x V no st la Aa na ca EA ce sz dd es := by
 obtain ⟨I, rfl, c⟩ := okWide_struct G.ht hw
 obtain ⟨f, R⟩ := h
 obtain ⟨g, n, _, C, J, B, A⟩ := DataW.trod_struct G.ht R
 injection C with C e1'
 subst C
 rw [G.hn] at J
 obtain ⟨i, j, m, o, q, s, F⟩ := list6 J
 rw [F] at A
 obtain ⟨u, S, _⟩ := field_trod G.ht hl B A G.f0
 obtain ⟨v, C, _⟩ := field_trod G.ht hl B A G.f1
 obtain ⟨y, T, _⟩ := field_trod G.ht hl B A G.f2
 obtain ⟨z, U, _⟩ := field_trod G.ht hl B A G.f3
 obtain ⟨y4, X, _⟩ := field_trod G.ht hl B A G.f4
 obtain ⟨y5, Y, Z⟩ := field_trod G.ht hl B A G.f5
 obtain ⟨V, K, _, _⟩ := DataW.trod_int E.hi S
 obtain ⟨Aa, ca, na, sz, L, a⟩ := open_rowC G.ha E.hi G.hc C
 obtain ⟨no, M, _, _⟩ := DataW.trod_int E.hi T
 obtain ⟨st, N, _, _⟩ := DataW.trod_int E.hi U
 obtain ⟨la, O, _, _⟩ := DataW.trod_int E.hi X
 obtain ⟨EA, ce, dd, es, Q, b⟩ := open_edsC E D Y Z
 simp at K L M N O Q
 subst K L M N O Q
 have e : I = #[.int .i64 V, .slice Aa na ca, .int .i64 no, .int .i64 st, .int .i64 la, .slice EA es.length ce] := by
  cases I
  simp [Value.cells] at F
  rw [F]
 exact ⟨V, no, st, la, Aa, na, ca, EA, ce, sz, dd, es, by rw [e], a, b⟩
structure ExQ (W : World) (v : Value) (x : Ex) (d : Nat) (A : Option Addr) (c : Nat) : Prop where
 v : v = exV x A c
 a : ExsAt W d A c x.l
 n : x.nm.size ≤ 140737488355328 ∧ nmL d x.l
 i : i64E (d + 1) x
theorem open_expr {H : Type} {enc : TypeId × Value → H} {P : Program} {r : Reach} {fs : Array Field} {d : DataW H} {p : List MemPlace} (E : ExT P t tl ts tn tk fs)
  (hw : Value.okWide P W r b0 t x) (h : DataW.Trod enc P W base (fun _ => true) held t x d p) (hl : Light P t d) : ∃ e dd A c, ExQ W x e dd A c := by
 obtain ⟨C, rfl, K⟩ := okWide_struct E.ht hw
 obtain ⟨D, F⟩ := h
 obtain ⟨y, m, rfl, B, G, I, J⟩ := (open_exC E D).1 _ _ F hl
 refine ⟨y.1, m / 2, y.2.1, y.2.2, ?_, G, I, J⟩
 cases C
 simp [Value.cells, exCs] at B
 rw [B]
 rfl
theorem open_row {H : Type} {enc : TypeId × Value → H} {P : Program} {r : Reach} {d : DataW H} {p : List MemPlace} (hl : P.underlying tl = some (.slice tn)) (hi : P.underlying tn = some (.int .i64)) (hc1 : P.cellsOf tn = 1)
  (hw : Value.okWide P W r b0 tl x) (h : DataW.Trod enc P W base (fun _ => true) held tl x d p) : ∃ A c n, ∃ sz : Nat → Int, x = .slice A n c ∧ RowK 1 W A c n (fun j _ => .int .i64 (sz j)) := by
 obtain ⟨a, len, E, rfl⟩ := okWide_slice hl hw
 obtain ⟨F, C⟩ := h
 obtain ⟨A, c, n, sz, B, D⟩ := open_rowC hl hi hc1 C
 simp [Value.cells] at B
 obtain ⟨rfl, rfl, rfl⟩ := B
 exact ⟨_, _, _, sz, rfl, D⟩
theorem exT_ : ∃ fs, ExT Tryz.prog 29 27 9 3 5 fs :=
 ⟨_, Tryz.underlying29, by kernel_rfl, ⟨_, rfl, rfl, rfl, by kernel_rfl⟩, ⟨_, rfl, rfl, rfl, by kernel_rfl⟩, ⟨_, rfl, rfl, rfl, by kernel_rfl⟩, ⟨_, rfl, rfl, rfl, by kernel_rfl⟩, ⟨_, rfl, rfl, rfl, by kernel_rfl⟩, Tryz.underlying5, Tryz.underlying9, Tryz.underlying3, Tryz.underlying27⟩
theorem edT_ : ∃ gs hs, EdT Tryz.prog 29 73 23 71 27 3 5 gs hs :=
 ⟨_, _, Tryz.underlying73, by kernel_rfl, ⟨_, rfl, rfl, rfl, by kernel_rfl⟩, ⟨_, rfl, rfl, rfl, by kernel_rfl⟩, ⟨_, rfl, rfl, rfl, by kernel_rfl⟩, ⟨_, rfl, rfl, rfl, by kernel_rfl⟩, Tryz.underlying71, ⟨_, rfl, rfl, rfl, by kernel_rfl⟩, ⟨_, rfl, rfl, rfl, by kernel_rfl⟩, ⟨_, rfl, rfl, rfl, by kernel_rfl⟩, ⟨_, rfl, rfl, rfl, by kernel_rfl⟩, Tryz.underlying23⟩
theorem grT_ : ∃ fs, GrT Tryz.prog 25 22 23 3 fs :=
 ⟨_, Tryz.underlying25, by kernel_rfl, ⟨_, rfl, rfl, rfl, by kernel_rfl⟩, ⟨_, rfl, rfl, rfl, by kernel_rfl⟩, ⟨_, rfl, rfl, rfl, by kernel_rfl⟩, ⟨_, rfl, rfl, rfl, by kernel_rfl⟩, ⟨_, rfl, rfl, rfl, by kernel_rfl⟩, ⟨_, rfl, rfl, rfl, by kernel_rfl⟩, Tryz.underlying22, by kernel_rfl⟩
end Go.Proofs.YtdncgncijbnjpaaGreat
