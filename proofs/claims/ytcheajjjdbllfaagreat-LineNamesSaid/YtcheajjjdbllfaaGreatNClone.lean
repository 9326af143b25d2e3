/- append onto a row of the call's own from any slice of words, and slices.Clone at numbers. No conditions but bounds on lengths. -/
import Derived.Lib.LazyBuf
import Derived.Test.YtcheajjjdbllfaaGreatNRefA
set_option linter.unusedVariables false
set_option linter.unusedSimpArgs false
set_option maxRecDepth 100000
set_option maxHeartbeats 40000000
namespace Go.Proofs.YtcheajjjdbllfaaGreat
open Go.Lib (hid)
open Go.RowKit
variable {A : Option Addr} {Z : Zone} {c : Nat}
theorem wpList_app {P : Program} (w : World) {ops : Array Oper} {rest : List Oper} {o : Oper} {a : Act} {Q : Exit → Act → World → Prop} (hgd : o.guard = none) (s x : Operand) (t : TypeId)
  (ho : o.op = .call { callee := .builtin .append, args := #[s, x], argTypes := #[t, t] })
  (base : Nat) (e : TypeId) (i : TypeInfo) (ht : P.underlying t = some (.slice e)) (hi : P.info? e = some i) (hz : i.zero = some (.int .u64 0)) (hsize : i.size = 1) (hby : i.bytes = 8)
  (v : Value) (n : Nat) (xs : List Value) (hs : a.eval s = v) (hown : w.ownsRow base e 1 v n xs)
  {m : Nat} {l : List Nat} (hm : m = l.length) (hx : a.eval x = .slice A m c) (hl : U64s w Z A c l)
  (hb : n + m ≤ 10000000000000) (hbase : base ≤ w.heap.size)
  (h : ∀ v' w', w'.ownsRow base e 1 v' (n + m) (xs ++ l.map fun x : Nat => Value.int .u64 (x : Int)) → w.grownBy w' v.ownBlock → wpList P ops Q rest (a.put o.dst v') w') : wpList P ops Q (o :: rest) a w := by
 subst hm
 rcases A with _ | ad
 · have hc := hl.nul rfl
   have hcap := hl.cap
   have h0 : l = [] := List.length_eq_zero_iff.1 (by omega)
   subst h0
   subst hc
   refine wpList_plain hgd fun K hK' => ?_
   have hrun := run_append_owned_none (P := P) w base t o.type e i 1 ht hi _ n xs hown
   unfold Oper.wp
   simp only [List.length_nil] at hx
   simp [execOp, ho, resolve, invoke, builtin, hs, hx, hrun, Result.andThen]
   exact hK' _ _ (h v w (by simpa using hown) (World.grownBy.refl _ _))
 · refine wpList_append_own w hgd s x t ho base e i (.int .u64 0) 1 8 ht hi hz hsize hby rfl (by omega) v n xs hs hown ad l.length c (l.map fun x : Nat => Value.int .u64 (x : Int)) hx (by simp) ?_ ?_ (by simp only [maxLen]; omega) (by omega) hbase (fun v' w' h2 h3 _ => h v' w' h2 h3)
   · intro j u hu
     have hj : j < l.length := by have := (List.getElem?_eq_some_iff.1 hu).1; simpa using this
     obtain ⟨b, o', e1, _, _, hc⟩ := hl.row (by simp; omega)
     injection e1 with e1
     subst e1
     rw [Addr.add_lit]
     exact hc j u hu
   · intro u hu
     obtain ⟨y, _, rfl⟩ := List.mem_map.1 hu
     rfl
theorem ownsRow_empty (w : World) (e : TypeId) : (w.alloc (.cells #[] e)).ownsRow w.heap.size e 1 (.slice (some ⟨w.heap.size, 0, none⟩) 0 0) 0 [] :=
 World.ownsRow_made w #[] 0 (Nat.le_refl _) (by simp [maxLen]) rfl
theorem clone_any {w : World} {n : Nat} {l : List Nat} (hn : n = l.length) (ha : U64s w Z A c l) (hb : l.length ≤ 1000000000000) :
  Calls Tryz.prog 21 #[.slice A n c] w fun e w' => ∃ v, e = .returned v ∧ w'.ownsRow w.heap.size 76 1 v n (l.map fun x : Nat => Value.int .u64 (x : Int)) ∧ Below w.heap.size w w' := by
 have heq := Lib.run_eql_slice_nil (P := Tryz.prog) w 23 76 A n c 0 0 Tryz.underlying23
 obtain ⟨i0, hi, hz0, hz1, hz2⟩ := info_parts Tryz.info76
 rcases A with _ | ad
 · have hc := ha.nul rfl
   have hcap := ha.cap
   have h0 : l = [] := List.length_eq_zero_iff.1 (by omega)
   subst h0
   obtain rfl : n = 0 := hn
   subst hc
   clear hcap hb ha
   go_enter Tryz.func21, Tryz.ntmps21
   go_wp2
   go_ret
   exact ⟨_, rfl, World.ownsRow_nil _ _ _ _, Below.refl _ _⟩
 · have hb0 : Below w.heap.size w (w.alloc (.cells #[] 76)) := (Below.refl _ w).alloc (Nat.le_refl _) _
   have ha1 := ha.below hb0
   have hown := ownsRow_empty w 76
   have Hn := hid hn
   have hnb : n ≤ 1000000000000 := by omega
   clear hn
   go_enter Tryz.func21, Tryz.ntmps21
   go_wp2_with (at_builtin; go_loud (refine wpList_app _ rfl _ _ 23 rfl w.heap.size 76 i0 Tryz.underlying23 hi hz0 hz1 hz2 _ _ _ rfl hown Hn.out rfl ha1 (by omega) (by simp) ?_); intro v' w1 hown' hgrow)
   have hg2 : (w.alloc (.cells #[] 76)).grownBy w1 (some w.heap.size) := hgrow
   go_ret
   exact ⟨_, rfl, by simpa using hown', hb0.grown hg2 (by simp) (fun k hk => by cases hk; exact Nat.le_refl _)⟩
end Go.Proofs.YtcheajjjdbllfaaGreat
