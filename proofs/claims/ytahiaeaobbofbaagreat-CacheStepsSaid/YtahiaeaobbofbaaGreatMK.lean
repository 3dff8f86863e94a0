/- Maps from integers to pointers that a call makes: laws over the kit's. -/
import Derived.Test.YtahiaeaobbofbaaGreatBase
import Derived.Maps.OwnSet
import Derived.Maps.OwnOps
import Derived.Maps.Views
set_option linter.unusedVariables false
namespace Go.Proofs.YtahiaeaobbofbaaGreat
open Go.RowKit
section
/-- How a pointer reads, as an element: its block's number. -/
def rP : Value → Option (DataW Unit × List MemPlace)
  | .pointer none => some (.lit (.int .i64 (-1)), [])
  | .pointer (some ⟨b, 0, none⟩) => some (.lit (.int .i64 (b : Nat)), [])
  | _ => none
def ptV : Option Nat → Value
  | none => .pointer none
  | some b => .pointer (some ⟨b, 0, none⟩)
def ptL : Option Nat → DataW Unit
  | none => .lit (.int .i64 (-1))
  | some b => .lit (.int .i64 (b : Nat))
theorem rP_pt (o : Option Nat) : rP (ptV o) = some (ptL o, []) := by cases o <;> rfl
theorem rP_inv {v : Value} {o : Option Nat} {ps : List MemPlace} (h : rP v = some (ptL o, ps)) : v = ptV o := by
  unfold rP at h
  split at h
  · cases o with
    | none => rfl
    | some b => simp [ptL] at h
  · cases o with
    | none => simp [ptL] at h
    | some b => simp [ptL] at h; have e := Int.ofNat.inj h.1; rw [e]; rfl
  · cases h
variable {P : Program} {kt : TypeId} {w : World} {b n : Nat} {M : Int → Option Nat}
/-- Block b of w is a map of at most n entries that holds M. -/
def Mp (P : Program) (kt : TypeId) (w : World) (b n : Nat) (M : Int → Option Nat) : Prop := ∃ D, w.ownsMap P kt rP b n D ∧ ∀ k, D.atKey (.int .i64 k) (ptL none) = ptL (M k)
theorem mp_made (w : World) (P : Program) (kt : TypeId) : Mp P kt (w.alloc (.map #[] 0)) w.heap.size 0 (fun _ => none) :=
  ⟨_, w.ownsMap_made P kt rP, fun k => rfl⟩
theorem Mp.kept {w' : World} {row : Option Nat} (h : Mp P kt w b n M) (hg : w.grownBy w' row) (hne : some b ≠ row) : Mp P kt w' b n M := by
  obtain ⟨D, h1, h2⟩ := h
  exact ⟨D, h1.kept hg hne, h2⟩
theorem Mp.lt (h : Mp P kt w b n M) : b < w.heap.size := by
  obtain ⟨D, h1, _⟩ := h
  exact h1.lt
theorem Mp.same {w' : World} (h : Mp P kt w b n M) (e : w'.heap[b]? = w.heap[b]?) : Mp P kt w' b n M := by
  obtain ⟨D, ⟨es, clock, hb, F, hs, hD⟩, h2⟩ := h
  exact ⟨D, ⟨es, clock, e.trans hb, F, hs, hD⟩, h2⟩
theorem lit_ok {k : Int} (h : -9223372036854775808 ≤ k ∧ k ≤ 9223372036854775807) : (Lit.int .i64 k).wf = true := by
  obtain ⟨h0, h1⟩ := h
  unfold Lit.wf
  rw [Bool.and_eq_true]
  exact ⟨decide_eq_true (show IntKind.i64.min ≤ k from h0), decide_eq_true (show k ≤ IntKind.i64.max from h1)⟩
theorem Mp.look {t e : TypeId} (h : Mp P kt w b n M) (hk : P.underlying kt = some (.int .i64)) (ht : P.underlying t = some (.map kt e)) (hz : (zeroValue e).run P w = .ok (.pointer none) w) {k : Int} (hw : -9223372036854775808 ≤ k ∧ k ≤ 9223372036854775807) :
    (Instr.lookup t (.map (some b)) (.int .i64 k) false).run P w = .ok (ptV (M k)) w := by
  obtain ⟨D, h1, h2⟩ := h
  obtain ⟨v, ps, hrun, hv⟩ := h1.lookup (Maps.int_keyed hk) ht hz (rP_pt none) (Maps.keyOf_int_mk hk (lit_ok hw))
  rw [h2 k] at hv
  rw [hrun, rP_inv hv]
/-- m[k] = a pointer. -/
theorem wpList_put {ops : Array Oper} {rest : List Oper} {o : Oper} {a : Act} {Q : Exit → Act → World → Prop}
    (hg : o.guard = none) (m x v : Operand) (t e : TypeId) (hop : o.op = Op.mapUpdate t m x v) (hk : P.underlying kt = some (.int .i64)) (ht : P.underlying t = some (.map kt e)) (h : Mp P kt w b n M) (hn : n < maxLen)
    (hm : a.eval m = .map (some b)) (k : Int) (hx : a.eval x = .int .i64 k) (hw : -9223372036854775808 ≤ k ∧ k ≤ 9223372036854775807) (q : Nat) (hv : a.eval v = .pointer (some ⟨q, 0, none⟩))
    (hK : ∀ w', Mp P kt w' b (n + 1) (fun z => if z = k then some q else M z) → w.grownBy w' (some b) → w'.heap.size = w.heap.size → wpList P ops Q rest (a.put o.dst undef) w') :
    wpList P ops Q (o :: rest) a w := by
  obtain ⟨D, h1, h2⟩ := h
  refine wpList_mapUpdate_in w hg m x v t hop kt e (Maps.int_keyed hk) ht rP b n D hm h1 hn _ _ (.int .i64 k) hx hv (Maps.keyOf_int_mk hk (lit_ok hw)) _ [] (rP_pt (some q)) ?_
  intro w' h3 h4
  refine hK w' ⟨_, h3, fun z => ?_⟩ h4.grown ?_
  · show _ = ptL (if z = k then _ else M z)
    by_cases e : z = k
    · rw [if_pos e, e, Maps.atKey_put_same h1.isMap (by trivial)]
    · rw [if_neg e, Maps.atKey_put_other (by intro e2; injection e2 with _ e2; exact e e2)]
      exact h2 z
  · obtain ⟨es, c, es', c', hb, rfl⟩ := h4
    simp [ChangeMaps.setBlock]
/-- delete(m, k). -/
theorem wpList_del {ops : Array Oper} {rest : List Oper} {o : Oper} {a : Act} {Q : Exit → Act → World → Prop}
    (hg : o.guard = none) (m x : Operand) (t e : TypeId) (hop : o.op = Op.call { callee := Callee.builtin Builtin.delete, args := #[m, x], argTypes := #[t, kt] }) (hk : P.underlying kt = some (.int .i64)) (ht : P.underlying t = some (.map kt e)) (h : Mp P kt w b n M)
    (hm : a.eval m = .map (some b)) (k : Int) (hx : a.eval x = .int .i64 k) (hw : -9223372036854775808 ≤ k ∧ k ≤ 9223372036854775807)
    (hK : ∀ w', Mp P kt w' b n (fun z => if z = k then none else M z) → w.grownBy w' (some b) → w'.heap.size = w.heap.size → wpList P ops Q rest (a.put o.dst (.tuple #[])) w') :
    wpList P ops Q (o :: rest) a w := by
  obtain ⟨D, h1, h2⟩ := h
  refine wpList_delete_own w hg m x t kt hop e (Maps.int_keyed hk) ht rP b n D hm h1 _ (.int .i64 k) hx (Maps.keyOf_int_mk hk (lit_ok hw)) ?_
  intro w' h3 h4
  refine hK w' ⟨_, h3, fun z => ?_⟩ h4.grown ?_
  · show _ = ptL (if z = k then _ else M z)
    by_cases e : z = k
    · rw [if_pos e, e, Maps.atKey_del_same]
    · rw [if_neg e, Maps.atKey_del_other (by intro e2; injection e2 with _ e2; exact e e2)]
      exact h2 z
  · obtain ⟨es, c, es', c', hb, rfl⟩ := h4
    simp [ChangeMaps.setBlock]
end
end Go.Proofs.YtahiaeaobbofbaaGreat
