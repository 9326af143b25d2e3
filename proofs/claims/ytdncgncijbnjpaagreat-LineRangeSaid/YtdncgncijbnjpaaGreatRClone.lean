/- append onto a row of the call's own from any slice of words, and slices.Clone at numbers. No conditions but bounds on lengths. -/
import Derived.Lib.LazyBuf
import Derived.Test.YtdncgncijbnjpaaGreatRRefA
set_option linter.unusedVariables false
set_option linter.unusedSimpArgs false
set_option maxRecDepth 100000
set_option maxHeartbeats 40000000
namespace Go.Proofs.YtdncgncijbnjpaaGreat
open Go.Lib (hid)
open Go.RowKit
variable {A : Option Addr} {Z : Zone} {c : Nat}
theorem wpList_app {P : Program} (w : World) {ops : Array Oper} {rest : List Oper} {o : Oper} {a : Act} {Q : Exit → Act → World → Prop} (hgd : o.guard = none) (s x : Operand) (t : TypeId)
  (ho : o.op = .call { callee := .builtin .append, args := #[s, x], argTypes := #[t, t] })
  (base : Nat) (e : TypeId) (i : TypeInfo) (ht : P.underlying t = some (.slice e)) (hi : P.info? e = some i) (hz : i.zero = some (.int .u64 0)) (hsize : i.size = 1) (hby : i.bytes = 8)
  (v : Value) (n : Nat) (xs : List Value) (hs : a.eval s = v) (hown : w.ownsRow base e 1 v n xs)
  {m : Nat} {l : List Nat} (hm : m = l.length) (hx : a.eval x = .slice A m c) (hl : U64s w Z A c l)
  (hb : n + m ≤ 10000000000000) (hbase : base ≤ w.heap.size)
  (h : ∀ v' w', w'.ownsRow base e 1 v' (n + m) (xs ++ l.map fun x : Nat => Value.int .u64 (x : Int)) → w.grownBy w' v.ownBlock → wpList P ops Q rest (a.put o.dst v') w') : wpList P ops Q (o :: rest) a w := by
 subst hm
 rcases A with _ | ad
 · have B := hl.nul rfl
   have F := hl.cap
   have D : l = [] := List.length_eq_zero_iff.1 (by omega)
   subst D
   subst B
   refine wpList_plain hgd fun K hK' => ?_
   have E := run_append_owned_none (P := P) w base t o.type e i 1 ht hi _ n xs hown
   unfold Oper.wp
   simp only [List.length_nil] at hx
   simp [execOp, ho, resolve, invoke, builtin, hs, hx, E, Result.andThen]
   exact hK' _ _ (h v w (by simpa using hown) (World.grownBy.refl _ _))
 · refine wpList_append_own w hgd s x t ho base e i (.int .u64 0) 1 8 ht hi hz hsize hby rfl (by omega) v n xs hs hown ad l.length c (l.map fun x : Nat => Value.int .u64 (x : Int)) hx (by simp) ?_ ?_ (by simp only [maxLen]; omega) (by omega) hbase (fun v' w' h2 h3 _ => h v' w' h2 h3)
   · intro j u hu
     have G : j < l.length := by have := (List.getElem?_eq_some_iff.1 hu).1; simpa using this
     obtain ⟨b, H, C, _, _, B⟩ := hl.row (by simp; omega)
     injection C with C
     subst C
     rw [Addr.add_lit]
     exact B j u hu
   · intro u hu
     obtain ⟨y, _, rfl⟩ := List.mem_map.1 hu
     rfl
theorem ownsRow_empty (w : World) (e : TypeId) : (w.alloc (.cells #[] e)).ownsRow w.heap.size e 1 (.slice (some ⟨w.heap.size, 0, none⟩) 0 0) 0 [] :=
 World.ownsRow_made w #[] 0 (Nat.le_refl _) (by simp [maxLen]) rfl
theorem clone_any {w : World} {n : Nat} {l : List Nat} (hn : n = l.length) (ha : U64s w Z A c l) (hb : l.length ≤ 1000000000000) :
  Calls Tryz.prog 108 #[.slice A n c] w fun e w' => ∃ v, e = .returned v ∧ w'.ownsRow w.heap.size 143 1 v n (l.map fun x : Nat => Value.int .u64 (x : Int)) ∧ Below w.heap.size w w' := by
 have N := Lib.run_eql_slice_nil (P := Tryz.prog) w 33 143 A n c 0 0 Tryz.underlying33
 obtain ⟨J, hi, K, L, M⟩ := info_parts Tryz.info143
 rcases A with _ | ad
 · have C := ha.nul rfl
   have D := ha.cap
   have E : l = [] := List.length_eq_zero_iff.1 (by omega)
   subst E
   obtain rfl : n = 0 := hn
   subst C
   clear D hb ha
   go_enter Tryz.func108, Tryz.ntmps108
   go_wp2
   go_ret
   exact ⟨_, rfl, World.ownsRow_nil _ _ _ _, Below.refl _ _⟩
 · have B : Below w.heap.size w (w.alloc (.cells #[] 143)) := (Below.refl _ w).alloc (Nat.le_refl _) _
   have F := ha.below B
   have G := ownsRow_empty w 143
   have H := hid hn
   have O : n ≤ 1000000000000 := by omega
   clear hn
   go_enter Tryz.func108, Tryz.ntmps108
   go_wp2_with (at_builtin; go_loud (refine wpList_app _ rfl _ _ 33 rfl w.heap.size 143 J Tryz.underlying33 hi K L M _ _ _ rfl G H.out rfl F (by omega) (by simp) ?_); intro v' w1 hown' hgrow)
   have I : (w.alloc (.cells #[] 143)).grownBy w1 (some w.heap.size) := hgrow
   go_ret
   exact ⟨_, rfl, by simpa using hown', B.grown I (by simp) (fun k hk => by cases hk; exact Nat.le_refl _)⟩
end Go.Proofs.YtdncgncijbnjpaaGreat
