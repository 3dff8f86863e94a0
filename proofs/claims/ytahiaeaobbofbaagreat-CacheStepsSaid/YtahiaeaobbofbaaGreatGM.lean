/- Maps that a call makes, of whatever keys and elements: a map as a function from values to values. -/
import Derived.Test.YtahiaeaobbofbaaGreatBase
import Derived.Maps.OwnSet
import Derived.Maps.OwnOps
import Derived.Maps.Views
import Derived.DeepKeys5
set_option linter.unusedVariables false
namespace Go.Proofs.YtahiaeaobbofbaaGreat
open Go.RowKit
section
/-- An element reads as itself. -/
def rH (v : Value) : Option (DataW Value × List MemPlace) := some (.held v, [])
def enH : Option Value → DataW Value
  | none => .nil
  | some v => .held v
variable {K : Type} {kv : K → Value} {P : Program} {kt : TypeId} {w : World} {b n : Nat} {M : K → Option Value}
theorem atKey_dich (D : DataW Value) (l : Lit) : (∀ z, D.atKey l z = z) ∨ ∃ y, ∀ z, D.atKey l z = y := by
  unfold DataW.atKey
  cases D with
  | map es =>
    cases h : es.find? (fun p => p.1.sameKey l) with
    | none => exact .inl fun z => by simp only [h]
    | some p => exact .inr ⟨p.2, fun z => by simp only [h]⟩
  | _ => exact .inl fun z => rfl
/-- Block b of w is a map of at most n entries that holds M. -/
def Gm {K : Type} (P : Program) (kt : TypeId) (kv : K → Value) (w : World) (b n : Nat) (M : K → Option Value) : Prop := ∃ D : DataW Value, w.ownsMap P kt rH b n D ∧ ∀ k l, keyOf P kt (kv k) = some l → D.atKey l .nil = enH (M k)
theorem gm_made {K : Type} (kv : K → Value) (w : World) (P : Program) (kt : TypeId) : Gm P kt kv (w.alloc (.map #[] 0)) w.heap.size 0 (fun _ => none) :=
  ⟨_, w.ownsMap_made P kt rH, fun _ _ _ => rfl⟩
theorem Gm.same {w' : World} (h : Gm P kt kv w b n M) (e : w'.heap[b]? = w.heap[b]?) : Gm P kt kv w' b n M := by
  obtain ⟨D, ⟨es, clock, hb, F, hs, hD⟩, h2⟩ := h
  exact ⟨D, ⟨es, clock, e.trans hb, F, hs, hD⟩, h2⟩
theorem Gm.lt (h : Gm P kt kv w b n M) : b < w.heap.size := by
  obtain ⟨D, h1, _⟩ := h
  exact h1.lt
theorem Gm.nx {w' : World} (h : Gm P kt kv w b n M) (hb : Below w.heap.size w w') : Gm P kt kv w' b n M := h.same (hb.block b h.lt)
theorem Gm.look {t e : TypeId} (h : Gm P kt kv w b n M) (KK : Maps.Keyed P kt) (ht : P.underlying t = some (.map kt e)) {z : Value} (hz : (zeroValue e).run P w = .ok z w) {x : K} {l : Lit} (hx : keyOf P kt (kv x) = some l) :
    (Instr.lookup t (.map (some b)) (kv x) true).run P w = .ok (.tuple #[(M x).getD z, .bool (M x).isSome]) w := by
  obtain ⟨D, h1, h2⟩ := h
  have hq := h2 x l hx
  obtain ⟨v, ps, hrun, hv⟩ := h1.look_ok KK ht hz (show rH z = some (.held z, []) from rfl) hx
  rcases atKey_dich D l with hd | ⟨y, hd⟩
  · rw [hd] at hq hv
    have hv2 : v = z := by injection hv with hv; injection hv with hv _; injection hv
    have hM : M x = none := by
      cases hm : M x with
      | none => rfl
      | some u => rw [hm] at hq; cases hq
    rw [hrun, hM, Maps.has_false_of_atKey hd, hv2]; rfl
  · rw [hd] at hq hv
    cases hm : M x with
    | none =>
      rw [hm] at hq
      rw [hq] at hv
      cases hv
    | some u =>
      rw [hm] at hq
      rw [hq] at hv
      have hv2 : v = u := by injection hv with hv; injection hv with hv _; injection hv
      rw [hrun, Maps.has_true_of_atKey hd, hv2]; rfl
variable [DecidableEq K]
/-- m[x] = v. -/
theorem Gm.store {t e : TypeId} (h : Gm P kt kv w b n M) (KK : Maps.Keyed P kt) (ht : P.underlying t = some (.map kt e)) (hn : n < maxLen) (hinj : ∀ a b, kv a = kv b → a = b) {x : K} {v : Value} {l : Lit} (hx : keyOf P kt (kv x) = some l) :
    ∃ w', (Instr.mapUpdate t (.map (some b)) (kv x) v).run P w = .ok () w' ∧ Gm P kt kv w' b (n + 1) (fun z => if z = x then some v else M z) ∧ w.grownBy w' (some b) ∧ w'.heap.size = w.heap.size := by
  obtain ⟨D, h1, h2⟩ := h
  obtain ⟨w', hrun, h3, h4⟩ := h1.store KK ht hn hx (show rH v = some (.held v, []) from rfl)
  refine ⟨w', hrun, ⟨_, h3, fun z lz hz => ?_⟩, h4.grown, ?_⟩
  · by_cases e : z = x
    · subst e
      obtain rfl : lz = l := Option.some.inj (hz.symm.trans hx)
      rw [Maps.atKey_put_same h1.isMap (KK.key hx)]
      simp [enH]
    · have hne : lz ≠ l := fun h => e (hinj _ _ (KK.inj hz (h ▸ hx)))
      rw [Maps.atKey_put_other hne, h2 z lz hz]
      simp [e]
  · obtain ⟨es, c, es', c', hb, rfl⟩ := h4
    simp [ChangeMaps.setBlock]
/-- delete(m, x). -/
theorem Gm.drop {t e : TypeId} (h : Gm P kt kv w b n M) (KK : Maps.Keyed P kt) (ht : P.underlying t = some (.map kt e)) (hinj : ∀ a b, kv a = kv b → a = b) {x : K} {l : Lit} (hx : keyOf P kt (kv x) = some l) (ty : TypeId) :
    ∃ w', (Builtin.delete_ #[t, kt] ty #[.map (some b), kv x]).run P w = .ok (.tuple #[]) w' ∧ Gm P kt kv w' b n (fun z => if z = x then none else M z) ∧ w.grownBy w' (some b) ∧ w'.heap.size = w.heap.size := by
  obtain ⟨D, h1, h2⟩ := h
  obtain ⟨w', hrun, h3, h4⟩ := h1.drop KK ht hx ty
  refine ⟨w', hrun, ⟨_, h3, fun z lz hz => ?_⟩, h4.grown, ?_⟩
  · by_cases e : z = x
    · subst e
      obtain rfl : lz = l := Option.some.inj (hz.symm.trans hx)
      rw [Maps.atKey_del_same]
      simp [enH]
    · have hne : lz ≠ l := fun h => e (hinj _ _ (KK.inj hz (h ▸ hx)))
      rw [Maps.atKey_del_other hne, h2 z lz hz]
      simp [e]
  · obtain ⟨es, c, es', c', hb, rfl⟩ := h4
    simp [ChangeMaps.setBlock]
end
section
variable {K : Type} [DecidableEq K] {kv : K → Value} {P : Program} {kt : TypeId} {w : World} {b n : Nat} {M : K → Option Value} {ops : Array Oper} {rest : List Oper} {o : Oper} {a : Act} {Q : Exit → Act → World → Prop}
theorem wpList_gput (hg : o.guard = none) (m x v : Operand) (t e : TypeId) (hop : o.op = Op.mapUpdate t m x v) (KK : Maps.Keyed P kt) (ht : P.underlying t = some (.map kt e)) (h : Gm P kt kv w b n M) (hn : n < maxLen)
    (hinj : ∀ a b, kv a = kv b → a = b) (hm : a.eval m = .map (some b)) (key : K) (val : Value) {l : Lit} (hk : keyOf P kt (kv key) = some l) (hx : a.eval x = kv key) (hv : a.eval v = val)
    (hK : ∀ w', Gm P kt kv w' b (n + 1) (fun z => if z = key then some val else M z) → w.grownBy w' (some b) → w'.heap.size = w.heap.size → wpList P ops Q rest (a.put o.dst undef) w') :
    wpList P ops Q (o :: rest) a w := by
  refine wpList_plain hg fun K' hK' => ?_
  obtain ⟨w', hrun, r1, r2, r3⟩ := h.store KK ht hn hinj hk (v := val)
  unfold Oper.wp
  simp [execOp, hop, hm, hx, hv, hrun, Result.andThen]
  exact hK' _ _ (hK w' r1 r2 r3)
theorem wpList_gdel (hg : o.guard = none) (m x : Operand) (t e : TypeId) (hop : o.op = Op.call { callee := Callee.builtin Builtin.delete, args := #[m, x], argTypes := #[t, kt] }) (KK : Maps.Keyed P kt) (ht : P.underlying t = some (.map kt e)) (h : Gm P kt kv w b n M)
    (hinj : ∀ a b, kv a = kv b → a = b) (hm : a.eval m = .map (some b)) (key : K) {l : Lit} (hk : keyOf P kt (kv key) = some l) (hx : a.eval x = kv key)
    (hK : ∀ w', Gm P kt kv w' b n (fun z => if z = key then none else M z) → w.grownBy w' (some b) → w'.heap.size = w.heap.size → wpList P ops Q rest (a.put o.dst (.tuple #[])) w') :
    wpList P ops Q (o :: rest) a w := by
  refine wpList_plain hg fun K' hK' => ?_
  obtain ⟨w', hrun, r1, r2, r3⟩ := h.drop KK ht hinj hk o.type
  unfold Oper.wp
  simp [execOp, hop, resolve, invoke, builtin, hm, hx, hrun, Result.andThen]
  exact hK' _ _ (hK w' r1 r2 r3)
end
end Go.Proofs.YtahiaeaobbofbaaGreat
