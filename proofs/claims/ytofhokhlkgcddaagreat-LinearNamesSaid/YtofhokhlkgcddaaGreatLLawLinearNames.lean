/-
  facetroomlaw17.LinearNames, walked. No conditions.
-/
import Derived.Test.YtofhokhlkgcddaaGreatLLinL
import Derived.Test.YtofhokhlkgcddaaGreatLLinV
import Derived.Test.YtofhokhlkgcddaaGreatLLinG
namespace Go.Proofs.YtofhokhlkgcddaaGreat
open Go.RowKit
set_option linter.unusedVariables false
set_option linter.unusedSimpArgs false

theorem ivs_lit2 {w : World} {Z : Zone} {p0 : Iv} {A0 B0 : Option Addr} {a0 b0 : Nat} {p1 : Iv} {A1 B1 : Option Addr} {a1 b1 : Nat} (t : TypeId) (u0 : U64s w Z A0 a0 p0.l0) (v0 : U64s w Z B0 b0 p0.l1) (u1 : U64s w Z A1 a1 p1.l0) (v1 : U64s w Z B1 b1 p1.l1) : IvsAt (w.alloc (.cells #[.bool p0.n0, .bool p0.s0, .slice A0 p0.l0.length a0, .bool p0.n1, .bool p0.s1, .slice B0 p0.l1.length b0, .bool p1.n0, .bool p1.s0, .slice A1 p1.l0.length a1, .bool p1.n1, .bool p1.s1, .slice B1 p1.l1.length b1] t)) Z (some ⟨w.heap.size, 0, none⟩) 2 [p0, p1] := by
  have hax : Below w.heap.size w (w.alloc (.cells #[.bool p0.n0, .bool p0.s0, .slice A0 p0.l0.length a0, .bool p0.n1, .bool p0.s1, .slice B0 p0.l1.length b0, .bool p1.n0, .bool p1.s0, .slice A1 p1.l0.length a1, .bool p1.n1, .bool p1.s1, .slice B1 p1.l1.length b1] t)) := (Below.refl _ _).alloc (Nat.le_refl _) _
  refine ⟨by simp, by omega, fun _ => ⟨_, 0, rfl, by simp, fun j hj => ?_⟩⟩
  rcases j with _ | _ | j
  · exact ⟨A0, a0, B0, b0, ⟨cell_newest rfl rfl, cell_newest rfl rfl, cell_newest rfl rfl, cell_newest rfl rfl, cell_newest rfl rfl, cell_newest rfl rfl⟩, u0.below hax, v0.below hax⟩
  · exact ⟨A1, a1, B1, b1, ⟨cell_newest rfl rfl, cell_newest rfl rfl, cell_newest rfl rfl, cell_newest rfl rfl, cell_newest rfl rfl, cell_newest rfl rfl⟩, u1.below hax, v1.below hax⟩
  · simp at hj
    omega
theorem ivs_lit3 {w : World} {Z : Zone} {p0 : Iv} {A0 B0 : Option Addr} {a0 b0 : Nat} {p1 : Iv} {A1 B1 : Option Addr} {a1 b1 : Nat} {p2 : Iv} {A2 B2 : Option Addr} {a2 b2 : Nat} (t : TypeId) (u0 : U64s w Z A0 a0 p0.l0) (v0 : U64s w Z B0 b0 p0.l1) (u1 : U64s w Z A1 a1 p1.l0) (v1 : U64s w Z B1 b1 p1.l1) (u2 : U64s w Z A2 a2 p2.l0) (v2 : U64s w Z B2 b2 p2.l1) : IvsAt (w.alloc (.cells #[.bool p0.n0, .bool p0.s0, .slice A0 p0.l0.length a0, .bool p0.n1, .bool p0.s1, .slice B0 p0.l1.length b0, .bool p1.n0, .bool p1.s0, .slice A1 p1.l0.length a1, .bool p1.n1, .bool p1.s1, .slice B1 p1.l1.length b1, .bool p2.n0, .bool p2.s0, .slice A2 p2.l0.length a2, .bool p2.n1, .bool p2.s1, .slice B2 p2.l1.length b2] t)) Z (some ⟨w.heap.size, 0, none⟩) 3 [p0, p1, p2] := by
  have hax : Below w.heap.size w (w.alloc (.cells #[.bool p0.n0, .bool p0.s0, .slice A0 p0.l0.length a0, .bool p0.n1, .bool p0.s1, .slice B0 p0.l1.length b0, .bool p1.n0, .bool p1.s0, .slice A1 p1.l0.length a1, .bool p1.n1, .bool p1.s1, .slice B1 p1.l1.length b1, .bool p2.n0, .bool p2.s0, .slice A2 p2.l0.length a2, .bool p2.n1, .bool p2.s1, .slice B2 p2.l1.length b2] t)) := (Below.refl _ _).alloc (Nat.le_refl _) _
  refine ⟨by simp, by omega, fun _ => ⟨_, 0, rfl, by simp, fun j hj => ?_⟩⟩
  rcases j with _ | _ | _ | j
  · exact ⟨A0, a0, B0, b0, ⟨cell_newest rfl rfl, cell_newest rfl rfl, cell_newest rfl rfl, cell_newest rfl rfl, cell_newest rfl rfl, cell_newest rfl rfl⟩, u0.below hax, v0.below hax⟩
  · exact ⟨A1, a1, B1, b1, ⟨cell_newest rfl rfl, cell_newest rfl rfl, cell_newest rfl rfl, cell_newest rfl rfl, cell_newest rfl rfl, cell_newest rfl rfl⟩, u1.below hax, v1.below hax⟩
  · exact ⟨A2, a2, B2, b2, ⟨cell_newest rfl rfl, cell_newest rfl rfl, cell_newest rfl rfl, cell_newest rfl rfl, cell_newest rfl rfl, cell_newest rfl rfl⟩, u2.below hax, v2.below hax⟩
  · simp at hj
    omega

theorem exSc : scaL exF (-1, 1) = [(-2, 2), (-5, 5)] := by decide +kernel
theorem exF_short : ∀ p ∈ fmOf exF, p.short := exF_w.short (by omega)
theorem exF_err : errF (fmOf exF) = 0 := exF_w.err (by omega) ⟨by simp [fmOf_len, exF], by simp [fmOf_len, exF]⟩
theorem exVr_w : FmW 8 (varL 2 1) (fmOf (varL 2 1)) := FmW.of fun j h => by
  rw [varL_len] at h
  rcases j with _ | _ | _ | j
  · exact int_n8 (x := 0) (y := 0) (by omega) (by omega) (by omega)
  · exact int_n8 (x := 1) (y := 1) (by omega) (by omega) (by omega)
  · exact int_n8 (x := 0) (y := 0) (by omega) (by omega) (by omega)
  · omega

set_option maxRecDepth 100000 in
set_option maxHeartbeats 8000000 in
theorem lawLinearNames (w : World) : Calls Tryz.prog 6 #[] w fun e w' => e = .returned (.bool true) ∧ Below w.heap.size w w' := by
  obtain ⟨z0, hz0⟩ : ∃ r, IvW (0, 0) r := ⟨_, IvW.mk _⟩
  have ez0 : z0 = ivOf (0) (0) := hz0.uniq (IvW.mk (0, 0))
  have Oz0 := Lib.hid (fun W : World => l17of_r (w := W) hz0 (by omega) (by omega) (by omega))
  obtain ⟨z1, hz1⟩ : ∃ r, IvW (1, 1) r := ⟨_, IvW.mk _⟩
  have ez1 : z1 = ivOf (1) (1) := hz1.uniq (IvW.mk (1, 1))
  have Oz1 := Lib.hid (fun W : World => l17of_r (w := W) hz1 (by omega) (by omega) (by omega))
  obtain ⟨y0, hy0⟩ : ∃ r, IvW (-2, 2) r := ⟨_, IvW.mk _⟩
  have ey0 : y0 = ivOf (-2) (2) := hy0.uniq (IvW.mk (-2, 2))
  have Oy0 := Lib.hid (fun W : World => l17of_r (w := W) hy0 (by omega) (by omega) (by omega))
  obtain ⟨y1, hy1⟩ : ∃ r, IvW (-5, 5) r := ⟨_, IvW.mk _⟩
  have ey1 : y1 = ivOf (-5) (5) := hy1.uniq (IvW.mk (-5, 5))
  have Oy1 := Lib.hid (fun W : World => l17of_r (w := W) hy1 (by omega) (by omega) (by omega))
  obtain ⟨m, hm⟩ : ∃ r, IvW (-1, 1) r := ⟨_, IvW.mk _⟩
  have em : m = ivOf (-1) (1) := hm.uniq (IvW.mk (-1, 1))
  have Om := Lib.hid (fun W : World => l17of_r (w := W) hm (by omega) (by omega) (by omega))
  have hokz : z0.ok = true ∧ z0.short := by
    have k := hz0.k (int_n8 (by omega) (by omega) (by omega)) (by omega)
    exact ⟨k.ok, by have := k.q0; omega, by have := k.q1; omega⟩
  have f1 : fmOf (varL 2 1) = [z0, z1, z0] := by rw [ez0, ez1]; rfl
  have f2 : fmOf (scaL exF (-1, 1)) = [y0, y1] := by rw [exSc, ey0, ey1]; rfl
  have s1 : ∀ p ∈ [z0, z1, z0], p.short := by rw [← f1]; exact exVr_w.short (by omega)
  have s2 : ∀ p ∈ [y0, y1], p.short := by
    intro p hp
    simp only [List.mem_cons, List.not_mem_nil, or_false] at hp
    rcases hp with rfl | rfl
    · have k := hy0.k (int_n8 (x := -2) (y := 2) (by omega) (by omega) (by omega)) (by omega)
      exact ⟨by have := k.q0; omega, by have := k.q1; omega⟩
    · have k := hy1.k (int_n8 (x := -5) (y := 5) (by omega) (by omega) (by omega)) (by omega)
      exact ⟨by have := k.q0; omega, by have := k.q1; omega⟩
  have SO := Lib.hid (fun W : World => l17some_w (w := W))
  have AL := Lib.hid alive17
  have VR : Hid (∀ W : World, Calls Tryz.prog 35 #[.int .i64 2, .int .i64 1] W fun e w' => ∃ Av cv, e = .returned (.tuple #[.slice Av 3 cv, .int .i64 0]) ∧ IvsAt w' (new W.heap.size) Av cv [z0, z1, z0] ∧ Below W.heap.size W w') := fun W => by
    have h := lvar_good (w := W) (d := 2) (i := 1) (by omega) (by omega) (by omega)
    rw [f1] at h
    exact h
  have SC : Hid (∀ W A c B b D d, IvsAt W old A c (fmOf exF) → U64s W old B b m.l0 → U64s W old D d m.l1 → Calls Tryz.prog 36 #[.slice A 2 c, .agg #[.bool m.n0, .bool m.s0, .slice B m.l0.length b, .bool m.n1, .bool m.s1, .slice D m.l1.length d]] W fun e w' => ∃ Av cv, e = .returned (.tuple #[.slice Av 2 cv, .int .i64 0]) ∧ IvsAt w' (new W.heap.size) Av cv [y0, y1] ∧ Below W.heap.size W w') := fun W A c B b D d h1 h2 h3 => by
    have h := lscale_w h1 (exF_w.up (by omega)) ⟨by simp [fmOf_len, exF], by simp [fmOf_len, exF]⟩ hm ((int_n8 (by omega) (by omega) (by omega)).up (by omega)) h2 h3
    rw [f2] at h
    exact h
  have AD : Hid (∀ W A c B b, IvsAt W old A c (fmOf exF) → IvsAt W old B b [z0, z1, z0] → Calls Tryz.prog 39 #[.slice A 2 c, .slice B 3 b] W fun e w' => e = .returned (.tuple #[.slice none 0 0, .int .i64 70]) ∧ Below W.heap.size W w') := fun W A c B b h1 h2 => by
    have h := ladd_bad (g := 70) h1 h2 exF_short s1 (by
      unfold errAdd
      rw [if_pos ⟨exF_err, by rw [← f1]; exact exVr_w.err (by omega) ⟨by rw [fmOf_len, varL_len]; omega, by rw [fmOf_len, varL_len]; omega⟩⟩, if_neg (by simp [fmOf_len, exF])]) (by omega)
    exact h
  have CO : Hid (∀ W A a B b, U64s W old A a z0.l0 → U64s W old B b z0.l1 → Calls Tryz.prog 40 #[.int .i64 (-1), .agg #[.bool z0.n0, .bool z0.s0, .slice A z0.l0.length a, .bool z0.n1, .bool z0.s1, .slice B z0.l1.length b]] W fun e w' => e = .returned (.tuple #[.slice none 0 0, .int .i64 2]) ∧ Below W.heap.size W w') := fun W A a B b h1 h2 => lconst_arg (.inl (by omega)) hokz.1 hokz.2 h1 h2
  have VB : Hid (∀ W A c, IvsAt W old A c (fmOf exF) → Calls Tryz.prog 41 #[.slice A 2 c, .slice none 0 0] W fun e w' => e = .returned (.tuple #[.agg #[.bool false, .bool false, .slice none 0 0, .bool false, .bool false, .slice none 0 0], .int .i64 70]) ∧ Below W.heap.size W w') := fun W A c h1 => by
    have h := lvalue_bad (g := 70) h1 (IvsAt.nil W old) exF_short (by simp) (by
      unfold errFB
      rw [if_pos ⟨exF_err, by simp⟩, if_neg (by simp [fmOf_len, exF])]) (by omega)
    exact h
  have CK : Hid (∀ W : World, Calls Tryz.prog 44 #[.slice none 0 0] W fun e w' => e = .returned (.int .i64 8) ∧ Below W.heap.size W w') := fun W => by
    have h := lcheck_any (IvsAt.nil W old) (by simp)
    rw [show errF [] = 8 by simp [errF]] at h
    exact h
  have S3 : Hid (∀ W A c B d, IvsAt W old A c [z0, z1, z0] → IvsAt W old B d [z0, z1, z0] → Calls Tryz.prog 42 #[.slice A 3 c, .slice B 3 d] W fun e w' => e = .returned (.bool true) ∧ Below W.heap.size W w') := fun W A c B d h1 h2 => by
    have h := same17_yes h1 h2 s1
    exact h
  have S2 : Hid (∀ W A c B d, IvsAt W old A c [y0, y1] → IvsAt W old B d [y0, y1] → Calls Tryz.prog 42 #[.slice A 2 c, .slice B 2 d] W fun e w' => e = .returned (.bool true) ∧ Below W.heap.size W w') := fun W A c B d h1 h2 => by
    have h := same17_yes h1 h2 s2
    exact h
  clear s1 s2 f1 f2 hokz hz0 hz1 hy0 hy1 hm ez0 ez1 ey0 ey1 em
  generalize hfm : fmOf exF = fm at *
  replace SO : Hid (∀ W : World, Calls Tryz.prog 37 #[] W fun e w' => ∃ A c, e = .returned (.slice A 2 c) ∧ IvsAt w' (new W.heap.size) A c fm ∧ Below W.heap.size W w') := by
    rw [← hfm]; exact SO
  clear hfm
  have hB : Below w.heap.size w w := Below.refl _ _
  go_enter Tryz.func6, Tryz.ntmps6
  go_wp2_with fail
  refine (VR.out _).mono ?_
  rintro e w1 ⟨A1, c1, rfl, i1, hc⟩
  replace hB := from_ hB hc
  clear hc
  replace i1 := i1.mono (le_old _)
  go_wp2_with fail
  refine (SO.out _).mono ?_
  rintro e w2 ⟨A2, c2, rfl, i2, hc⟩
  replace i1 := i1.below hc
  replace hB := from_ hB hc
  clear hc
  replace i2 := i2.mono (le_old _)
  go_wp2_with fail
  refine (Om.out _).mono ?_
  rintro e w3 ⟨A3, a3, B3, b3, rfl, u3, v3, hc⟩
  replace i1 := i1.below hc
  replace i2 := i2.below hc
  replace hB := from_ hB hc
  clear hc
  replace u3 := u3.mono (le_old _)
  replace v3 := v3.mono (le_old _)
  go_wp2_with fail
  refine (SC.out _ _ _ _ _ _ _ i2 u3 v3).mono ?_
  rintro e w4 ⟨A4, c4, rfl, i4, hc⟩
  replace i1 := i1.below hc
  replace i2 := i2.below hc
  replace u3 := u3.below hc
  replace v3 := v3.below hc
  replace hB := from_ hB hc
  clear hc
  replace i4 := i4.mono (le_old _)
  clear i2 u3 v3
  go_wp2_with fail
  refine (SO.out _).mono ?_
  rintro e w5 ⟨A5, c5, rfl, i5, hc⟩
  replace i1 := i1.below hc
  replace i4 := i4.below hc
  replace hB := from_ hB hc
  clear hc
  replace i5 := i5.mono (le_old _)
  go_wp2_with fail
  refine (AD.out _ _ _ _ _ i5 i1).mono ?_
  rintro e w6 ⟨rfl, hc⟩
  replace i1 := i1.below hc
  replace i4 := i4.below hc
  replace i5 := i5.below hc
  replace hB := from_ hB hc
  clear hc
  clear i5
  go_wp2_with fail
  refine (Oz0.out _).mono ?_
  rintro e w7 ⟨A6, a6, B6, b6, rfl, u6, v6, hc⟩
  replace i1 := i1.below hc
  replace i4 := i4.below hc
  replace hB := from_ hB hc
  clear hc
  replace u6 := u6.mono (le_old _)
  replace v6 := v6.mono (le_old _)
  go_wp2_with fail
  refine (CO.out _ _ _ _ _ u6 v6).mono ?_
  rintro e w8 ⟨rfl, hc⟩
  replace i1 := i1.below hc
  replace i4 := i4.below hc
  replace u6 := u6.below hc
  replace v6 := v6.below hc
  replace hB := from_ hB hc
  clear hc
  clear u6 v6
  go_wp2_with fail
  refine (SO.out _).mono ?_
  rintro e w9 ⟨A7, c7, rfl, i7, hc⟩
  replace i1 := i1.below hc
  replace i4 := i4.below hc
  replace hB := from_ hB hc
  clear hc
  replace i7 := i7.mono (le_old _)
  go_wp2_with fail
  refine (VB.out _ _ _ i7).mono ?_
  rintro e w10 ⟨rfl, hc⟩
  replace i1 := i1.below hc
  replace i4 := i4.below hc
  replace i7 := i7.below hc
  replace hB := from_ hB hc
  clear hc
  clear i7
  have hax : Below w10.heap.size w10 (w10.alloc (.cells #[.bool false, .bool false, .slice none 0 0, .bool false, .bool false, .slice none 0 0] 29)) := (Below.refl _ _).alloc (Nat.le_refl _) _
  replace i1 := i1.below hax
  replace i4 := i4.below hax
  replace hB := from_ hB hax
  clear hax
  go_wp2_with fail
  refine (Oz0.out _).mono ?_
  rintro e w11 ⟨A8, a8, B8, b8, rfl, u8, v8, hc⟩
  replace i1 := i1.below hc
  replace i4 := i4.below hc
  replace hB := from_ hB hc
  clear hc
  replace u8 := u8.mono (le_old _)
  replace v8 := v8.mono (le_old _)
  go_wp2_with fail
  refine (Oz1.out _).mono ?_
  rintro e w12 ⟨A9, a9, B9, b9, rfl, u9, v9, hc⟩
  replace i1 := i1.below hc
  replace i4 := i4.below hc
  replace u8 := u8.below hc
  replace v8 := v8.below hc
  replace hB := from_ hB hc
  clear hc
  replace u9 := u9.mono (le_old _)
  replace v9 := v9.mono (le_old _)
  go_wp2_with fail
  refine (Oz0.out _).mono ?_
  rintro e w13 ⟨A10, a10, B10, b10, rfl, u10, v10, hc⟩
  replace i1 := i1.below hc
  replace i4 := i4.below hc
  replace u8 := u8.below hc
  replace v8 := v8.below hc
  replace u9 := u9.below hc
  replace v9 := v9.below hc
  replace hB := from_ hB hc
  clear hc
  replace u10 := u10.mono (le_old _)
  replace v10 := v10.mono (le_old _)
  have hax : Below w13.heap.size w13 (w13.alloc (.cells #[.bool z0.n0, .bool z0.s0, .slice A8 z0.l0.length a8, .bool z0.n1, .bool z0.s1, .slice B8 z0.l1.length b8, .bool z1.n0, .bool z1.s0, .slice A9 z1.l0.length a9, .bool z1.n1, .bool z1.s1, .slice B9 z1.l1.length b9, .bool z0.n0, .bool z0.s0, .slice A10 z0.l0.length a10, .bool z0.n1, .bool z0.s1, .slice B10 z0.l1.length b10] 29)) := (Below.refl _ _).alloc (Nat.le_refl _) _
  have i8 := ivs_lit3 29 u8 v8 u9 v9 u10 v10
  clear u8
  clear v8
  clear u9
  clear v9
  clear u10
  clear v10
  replace i1 := i1.below hax
  replace i4 := i4.below hax
  replace hB := from_ hB hax
  clear hax
  go_wp2_with fail
  refine (S3.out _ _ _ _ _ i1 i8).mono ?_
  rintro e w14 ⟨rfl, hc⟩
  replace i1 := i1.below hc
  replace i4 := i4.below hc
  replace i8 := i8.below hc
  replace hB := from_ hB hc
  clear hc
  clear i1 i8
  go_wp2_with fail
  refine (Oy0.out _).mono ?_
  rintro e w15 ⟨A11, a11, B11, b11, rfl, u11, v11, hc⟩
  replace i4 := i4.below hc
  replace hB := from_ hB hc
  clear hc
  replace u11 := u11.mono (le_old _)
  replace v11 := v11.mono (le_old _)
  go_wp2_with fail
  refine (Oy1.out _).mono ?_
  rintro e w16 ⟨A12, a12, B12, b12, rfl, u12, v12, hc⟩
  replace i4 := i4.below hc
  replace u11 := u11.below hc
  replace v11 := v11.below hc
  replace hB := from_ hB hc
  clear hc
  replace u12 := u12.mono (le_old _)
  replace v12 := v12.mono (le_old _)
  have hax : Below w16.heap.size w16 (w16.alloc (.cells #[.bool y0.n0, .bool y0.s0, .slice A11 y0.l0.length a11, .bool y0.n1, .bool y0.s1, .slice B11 y0.l1.length b11, .bool y1.n0, .bool y1.s0, .slice A12 y1.l0.length a12, .bool y1.n1, .bool y1.s1, .slice B12 y1.l1.length b12] 29)) := (Below.refl _ _).alloc (Nat.le_refl _) _
  have i12 := ivs_lit2 29 u11 v11 u12 v12
  clear u11
  clear v11
  clear u12
  clear v12
  replace i4 := i4.below hax
  replace hB := from_ hB hax
  clear hax
  go_wp2_with fail
  refine (S2.out _ _ _ _ _ i4 i12).mono ?_
  rintro e w17 ⟨rfl, hc⟩
  replace i4 := i4.below hc
  replace i12 := i12.below hc
  replace hB := from_ hB hc
  clear hc
  clear i4 i12
  go_wp2_with fail
  refine (AL.out _).mono ?_
  rintro e w18 ⟨rfl, hc⟩
  replace hB := from_ hB hc
  clear hc
  go_wp2_with fail
  refine (CK.out _).mono ?_
  rintro e w19 ⟨rfl, hc⟩
  replace hB := from_ hB hc
  clear hc
  go_wp2
  go_ret
  exact ⟨by first | rfl | trivial, hB⟩

end Go.Proofs.YtofhokhlkgcddaaGreat
