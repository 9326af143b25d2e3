/-
  The document's own answer, layer 4: Parse of any text. No conditions.
-/
import Derived.Deep.RegionHeld3
import Derived.Test.YtceenaegchlbcaaGreatDoorEGcdE
import Derived.Test.YtceenaegchlbcaaGreatDoorEDigR
import Derived.Test.YtceenaegchlbcaaGreatDoorERefO
namespace Go.Proofs.YtceenaegchlbcaaGreatDoor
open Go.RowKit
set_option linter.unusedVariables false
set_option linter.unusedSimpArgs false

theorem take_snoc {l : List UInt8} {k : Nat} (h : k < l.length) : l.take (k + 1) = l.take k ++ [l[k]] := by
  rw [List.take_add_one, List.getElem?_eq_getElem h]
  rfl
theorem dval_take {l : List UInt8} {k : Nat} (h : k < l.length) : dval (l.take (k + 1)) = dval (l.take k) * 10 + (l[k].toNat - 48) := by
  rw [take_snoc h, dval_snoc]
theorem all_snoc {l : List UInt8} {k : Nat} (h : k < l.length) (ha : (l.take k).all isDg = true) (hb : isDg l[k] = true) : (l.take (k + 1)).all isDg = true := by
  rw [take_snoc h, List.all_append, ha, List.all_cons, hb]
  rfl
theorem not_all {l : List UInt8} {k : Nat} (h : k < l.length) (hb : isDg l[k] = false) : l.all isDg = false := by
  apply Bool.eq_false_iff.2
  intro ha
  rw [List.all_eq_true] at ha
  have := ha _ (List.getElem_mem h)
  rw [hb] at this
  cases this
theorem str_at {s : ByteArray} {l : List UInt8} (e : s.data.toList = l) {k : Nat} (h : k < s.size) (h' : k < l.length) : s[k] = l[k] := by
  subst e
  simp
  rfl

set_option maxRecDepth 100000 in
set_option maxHeartbeats 4000000 in
theorem rparse_run {w : World} (s : ByteArray) {l : List UInt8} (hl : s.data.toList = l) (hs : s.size ≤ 4096) (hne : l ≠ []) (hz : l.head? = some 48 → l = [48]) :
    Calls Tryz.prog 9 #[.string s] w fun e w' => ∃ v, e = .returned (.tuple #[v, .int .i64 (parseE l)]) ∧ IsN w' (new w.heap.size) v (parseN l) ∧ Below w.heap.size w w' := by
  have hsz := str_size hl
  have hE := str_empty hl hne
  have hp : 0 < s.size := by rw [hsz]; exact List.length_pos_iff.2 hne
  have hp2 : 0 < l.length := by omega
  have hd1 : decide ((4096 : Int) < (s.size : Int)) = false := decide_eq_false (by omega)
  have hh : l.head? = some l[0] := by rw [List.head?_eq_getElem?, List.getElem?_eq_getElem hp2]
  have hcase : ((s[0].toNat : Int) == 48) = false ∨ (((s[0].toNat : Int) == 48) = true ∧ decide ((1 : Int) < (s.size : Int)) = false) := by
    rw [str_at hl hp hp2]
    by_cases e : l[0] = 48
    · right
      have := hz (by rw [hh, e])
      refine ⟨by rw [e]; rfl, decide_eq_false ?_⟩
      rw [hsz, this]
      simp
    · left
      refine beq_eq_false_iff_ne.2 fun e2 => e (UInt8.toNat_inj.1 ?_)
      have : l[0].toNat = 48 := by omega
      rw [this]
      rfl
  have HS := Lib.hid hl
  have Hsz := Lib.hid hsz
  have Hne := Lib.hid hne
  have Hz := Lib.hid hz
  clear hl hsz hne hz hh
  go_enter Tryz.func9, Tryz.ntmps9
  rcases hcase with hc | ⟨hc, hc2⟩
  all_goals
    go_wp2
    go_loopw [4, 5] (fun v i wr => ∃ (k : Nat), i = .int .i64 (k : Int) ∧ k ≤ s.size ∧ Hid ((l.take k).all isDg = true) ∧ IsN wr (new w.heap.size) v (dval (l.take k)) ∧ Below w.heap.size w wr) (fun _ i _ => s.size - (intOf i).toNat)
    case atStart => exact ⟨0, rfl, Nat.zero_le _, rfl, ⟨none, 0, rfl, U64s.nil _ _⟩, Below.refl _ _⟩
    case round =>
      obtain ⟨k, rfl, hk, hall, hv, hbel⟩ := hrel
      by_cases hkl : k = s.size
      · have hd : decide ((k : Int) < (s.size : Int)) = false := decide_eq_false (by omega)
        have hlen := Hsz.out
        have htk : l.take k = l := List.take_of_length_le (by omega)
        have ho : okD l := ⟨by omega, Hne.out, Hz.out, by have := hall.out; rwa [htk] at this⟩
        obtain ⟨p1, p2⟩ := parse_ok ho
        rw [htk] at hv
        obtain ⟨A, c, rfl, hu⟩ := hv
        have Hu := Lib.hid hu
        have P1 := Lib.hid p1
        have P2 := Lib.hid p2
        clear hu p1 p2 ho htk hall hlen
        go_wp2
        go_ret2
        exact ⟨_, by rw [P1.out]; rfl, ⟨A, c, by rw [P2.out]; rfl, by rw [P2.out]; exact Hu.out⟩, hbel⟩
      · have hks : k < s.size := by omega
        have hkl2 : k < l.length := by rw [← Hsz.out]; exact hks
        have hd : decide ((k : Int) < (s.size : Int)) = true := decide_eq_true (by omega)
        have hat := str_at HS.out hks hkl2
        have hb2 : s[k] = l[k] := hat
        obtain ⟨A0, c0, rfl, hu0⟩ := hv
        have hv : IsN wr (new w.heap.size) (.slice A0 (limbs (dval (l.take k))).length c0) (dval (l.take k)) := ⟨A0, c0, rfl, hu0⟩
        obtain ⟨L0, hL0⟩ : ∃ L0, L0 = (limbs (dval (l.take k))).length := ⟨_, rfl⟩
        rw [← hL0] at hv ⊢
        clear hL0 hu0
        by_cases hdg : isDg s[k] = true
        · have hdg2 := isDg_iff.1 hdg
          have hall2 := all_snoc hkl2 hall.out (by rw [← hb2]; exact hdg)
          have hdv := dval_take hkl2
          rw [← hb2] at hdv
          obtain ⟨d, hd'⟩ : ∃ d, d = s[k].toNat - 48 := ⟨_, rfl⟩
          have hd10 : d < 10 := by omega
          rw [← hd'] at hdv
          have hbd : s[k].toNat = 48 + d := by omega
          have hl1 := dval_len (l := l.take k) (by rw [List.length_take, ← Hsz.out]; omega) hall.out
          have hl2 : (limbs (dval (l.take k) * 10)).length ≤ 10000 := by
            refine Nat.le_trans (len_mono (Nat.le_add_right _ d)) ?_
            rw [← hdv]
            exact Nat.le_trans (dval_len (l := l.take (k + 1)) (by rw [List.length_take, ← Hsz.out]; omega) hall2) (by omega)
          have hl3 : (limbs d).length ≤ 10000 := Nat.le_trans (len_limbs_le (k := 1) (by rw [Nat.pow_one]; omega)) (by omega)
          have h1 : decide ((s[k].toNat : Int) < 48) = false := decide_eq_false (by omega)
          have h2 : decide ((57 : Int) < (s[k].toNat : Int)) = false := decide_eq_false (by omega)
          have hsub : IntKind.u64.wrap (IntKind.u8.wrap ((s[k].toNat : Int) - 48)) = (d : Int) := by
            rw [show (s[k].toNat : Int) - 48 = (d : Int) by omega, IntKind.wrap_u8, IntKind.wrap_u64]
            omega
          have hlo : 48 ≤ s[k].toNat := hdg2.1
          have hhi : s[k].toNat ≤ 57 := hdg2.2
          have hO : ∀ W, Calls Tryz.prog 62 #[.int .u64 (d : Int)] W (fun e w' => ∃ v, e = .returned v ∧ IsN w' (new W.heap.size) v d ∧ Below W.heap.size W w') := fun W => rof_any (w := W) (x := d) (by omega)
          have hT : ∀ W g Z, W.cell? ⟨g, 0, none⟩ = some (.int .u64 10) → IsN W Z (.slice A0 L0 c0) (dval (l.take k)) → Calls Tryz.prog 61 #[.slice A0 L0 c0, .slice (some ⟨g, 0, none⟩) 1 1] W (fun e w' => ∃ v2, e = .returned v2 ∧ IsN w' (new W.heap.size) v2 (dval (l.take k) * 10) ∧ Below W.heap.size W w') := fun W g Z h1 h2 => rtimes_good h2 (isN_one (x := 10) (by omega) (by omega) h1) (by omega) (by decide +kernel)
          have hM : ∀ W Z Y v2 v3, IsN W Z v2 (dval (l.take k) * 10) → IsN W Y v3 d → Calls Tryz.prog 60 #[v2, v3] W (fun e w' => ∃ v4, e = .returned v4 ∧ IsN w' (new W.heap.size) v4 (dval (l.take (k + 1))) ∧ Below W.heap.size W w') := fun W Z Y v2 v3 h1 h2 => by
            rw [hdv]
            exact sum1_good h1 h2 hl2 hl3
          have HO := Lib.hid hO
          have HT := Lib.hid hT
          have HM := Lib.hid hM
          have hD := hv.below (Below.refl wr.heap.size wr).drew
          have hdA : Below wr.drew.heap.size wr.drew (wr.drew.alloc (.cells #[.int .u64 10] 68)) := (Below.refl _ _).alloc (Nat.le_refl _) _
          have BD := Lib.hid ((Below.refl wr.heap.size wr).drew)
          have BA := Lib.hid (from_ BD.out hdA)
          have hA := hD.below hdA
          have TA : (wr.drew.alloc (.cells #[.int .u64 10] 68)).cell? ⟨wr.drew.heap.size, 0, none⟩ = some (.int .u64 10) := cell_newest rfl rfl
          have Hall2 := Lib.hid hall2
          have HD := Lib.hid hD
          have HA := Lib.hid hA
          have TAH := Lib.hid TA
          have Hle := Lib.hid hbel.size
          clear hbd hall hdg hdg2 hl1 hl2 hl3 hdv hall2 hb2 hat hd' hO hT hM hv hD hdA hA TA
          go_wp2
          go_region_with (first
              | (go_at_call 62; with_reducible refine (HO.out _).mono ?_; rintro e w3 ⟨v3, rfl, hv3, hc3⟩; (first
                | (have B3 := Lib.hid (from_ B2.out hc3); have hx2 := hv2.below hc3; have hx3 := hv3)
                | (have B3 := Lib.hid (from_ BA.out hc3); have hk := keepC hc3 TAH.out; have hvO := HA.out.below hc3)
                | (have B3 := Lib.hid (from_ BD.out hc3); have hvO := HD.out.below hc3)))
              | (go_at_call 61; refine (HT.out _ _ _ (by first | exact TAH.out | exact hk | exact cell_newest rfl rfl) (by first | exact HA.out | exact hvO | exact hvO.below ((Below.refl _ _).alloc (Nat.le_refl _) _))).mono ?_; rintro e w2 ⟨v2, rfl, hv2, hc2⟩; (first
                | have B2 := Lib.hid (from_ BA.out hc2)
                | (have B4 := Lib.hid (from_ B3.out hc2); have hx2 := hv2; have hx3 := hv3.below hc2)
                | (have B4 := Lib.hid (from_ (from_ B3.out ((Below.refl _ w3).alloc (Nat.le_refl _) (.cells #[.int .u64 10] 68))) hc2); have hx2 := hv2; have hx3 := hv3.below (step ((Below.refl _ w3).alloc (Nat.le_refl _) (.cells #[.int .u64 10] 68)) hc2))))
              | (go_at_call 60; with_reducible refine (HM.out _ _ _ _ _ hx2 hx3).mono ?_; rintro e w4 ⟨v4, rfl, hv4, hc4⟩; (first
                | (have hle := B4.out.size; have B5 := Lib.hid (from_ B4.out hc4))
                | (have hle := B3.out.size; have B5 := Lib.hid (from_ B3.out hc4)))))
          all_goals
            have Hv4 := Lib.hid (hv4.mono (new_le (Nat.le_trans Hle.out hle)))
            clear hv4 hle
            go_wp2
            go_roundw
            case rel => exact ⟨k + 1, by go_num, by omega, Hall2, Hv4.out, from_ hbel B5.out⟩
            case measure => simp [intOf]; omega
        · have hdf : isDg s[k] = false := by simpa using hdg
          have hn : ¬ okD l := fun h => by have := h.2.2.2; rw [not_all hkl2 (by rw [← hb2]; exact hdf)] at this; cases this
          obtain ⟨p1, p2⟩ := parse_bad (l := l) (by rw [← Hsz.out]; exact hs) hn
          have P1 := Lib.hid p1
          have P2 := Lib.hid p2
          have hcb : s[k].toNat < 48 ∨ 57 < s[k].toNat := by
            have : ¬ (48 ≤ s[k].toNat ∧ s[k].toNat ≤ 57) := fun h => hdg (isDg_iff.2 h)
            omega
          clear p1 p2 hn hdf hdg hb2 hat hv hall
          rcases hcb with h1 | h1
          · have h2 : decide ((s[k].toNat : Int) < 48) = true := decide_eq_true (by omega)
            go_wp2
            go_ret2
            exact ⟨_, by rw [P1.out]; rfl, by rw [P2.out]; exact IsN.zero _ _, hbel⟩
          · have h2 : decide ((s[k].toNat : Int) < 48) = false := decide_eq_false (by omega)
            have h3 : decide ((57 : Int) < (s[k].toNat : Int)) = true := decide_eq_true (by omega)
            go_wp2
            go_ret2
            exact ⟨_, by rw [P1.out]; rfl, by rw [P2.out]; exact IsN.zero _ _, hbel⟩

set_option maxHeartbeats 1000000 in
/-- facetroomref04.Parse of any text: what gcd.Parse answers. -/
theorem rparse_any {w : World} (s : ByteArray) (hs : s.size ≤ 9223372036854775807) :
    Calls Tryz.prog 9 #[.string s] w fun e w' => ∃ v, e = .returned (.tuple #[v, .int .i64 (parseE s.data.toList)]) ∧ IsN w' (new w.heap.size) v (parseN s.data.toList) ∧ Below w.heap.size w w' := by
  by_cases h1 : 4096 < s.size
  · obtain ⟨e1, e2⟩ := parse_long (l := s.data.toList) (by rw [← str_size rfl]; exact h1)
    rw [e1, e2]
    have hd : decide ((4096 : Int) < (s.size : Int)) = true := decide_eq_true (by omega)
    clear e1 e2
    go_enter Tryz.func9, Tryz.ntmps9
    go_wp2
    go_ret2
    exact ⟨_, rfl, IsN.zero _ _, Below.refl _ _⟩
  have h2 : s.data.toList.length ≤ 4096 := by rw [← str_size rfl]; omega
  have hd : decide ((4096 : Int) < (s.size : Int)) = false := decide_eq_false (by omega)
  by_cases hne : s.data.toList = []
  · obtain ⟨e1, e2⟩ := parse_bad h2 (fun h => h.2.1 hne)
    rw [e1, e2]
    have hE := str_none rfl hne
    clear e1 e2
    go_enter Tryz.func9, Tryz.ntmps9
    go_wp2
    go_ret2
    exact ⟨_, rfl, IsN.zero _ _, Below.refl _ _⟩
  by_cases hz : s.data.toList.head? = some 48 → s.data.toList = [48]
  · exact rparse_run s rfl (by omega) hne hz
  · obtain ⟨e1, e2⟩ := parse_bad h2 (fun h => hz h.2.2.1)
    rw [e1, e2]
    have hE := str_empty rfl hne
    have hp : 0 < s.size := by rw [str_size rfl]; exact List.length_pos_iff.2 hne
    have hzz : s.data.toList.head? = some 48 ∧ s.data.toList ≠ [48] := Classical.not_imp.1 hz
    have hp2 : 0 < s.data.toList.length := by rw [← str_size rfl]; exact hp
    have hh : s.data.toList[0] = 48 := by
      have := hzz.1
      rw [List.head?_eq_getElem?, List.getElem?_eq_getElem hp2] at this
      exact Option.some.inj this
    have hc : ((s[0].toNat : Int) == 48) = true := by
      rw [str_at rfl hp hp2, hh]
      rfl
    have hlen : 1 < s.size := by
      rw [str_size rfl]
      have := hzz.2
      cases hl : s.data.toList with
      | nil => exact absurd hl hne
      | cons b m =>
        cases m with
        | nil =>
          refine absurd ?_ this
          have h3 : (b :: []).head? = some 48 := by rw [← hl]; exact hzz.1
          rw [hl, Option.some.inj h3]
        | cons b' m' => simp
    have hd2 : decide ((1 : Int) < (s.size : Int)) = true := decide_eq_true (by omega)
    clear e1 e2 hzz hh hz hne hlen
    go_enter Tryz.func9, Tryz.ntmps9
    go_wp2
    go_ret2
    exact ⟨_, rfl, IsN.zero _ _, Below.refl _ _⟩
end Go.Proofs.YtceenaegchlbcaaGreatDoor
