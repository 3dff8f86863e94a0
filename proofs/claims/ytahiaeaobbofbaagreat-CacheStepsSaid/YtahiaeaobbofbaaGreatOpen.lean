/- What the row's reading tells of an argument: 'Rv' (its cells can be read as data of a type), opened type by type. -/
import Derived.Test.YtahiaeaobbofbaaGreatBase
import Derived.ProofKit
import Derived.OpenShut
import Derived.Carry
import Derived.ChangeOld
import Derived.Deep.Slices
set_option linter.unusedVariables false
namespace Go.Proofs.YtahiaeaobbofbaaGreat
open Go.RowKit
section
variable {P : Program} {w : World}
/-- The cells can be read as data of type t (as the rows read them). -/
def Rv (P : Program) (w : World) (t : TypeId) (cs : List Value) : Prop :=
  ∃ (H : Type) (enc : TypeId × Value → H) (fuel : Nat) (x : DataW H × List MemPlace), DataW.trod enc P w 0 (fun _ => true) true fuel t cs = some x
theorem rv_int {t : TypeId} {k : IntKind} {cs : List Value} (ht : P.underlying t = some (.int k)) (h : Rv P w t cs) : ∃ n, cs = [.int k n] ∧ (Lit.int k n).wf = true := by
  obtain ⟨H, enc, fuel, x, h⟩ := h
  cases fuel with
  | zero => simp [DataW.trod] at h
  | succ n =>
    unfold DataW.trod at h
    rw [ht] at h
    split at h <;> simp_all
theorem rv_bool {t : TypeId} {cs : List Value} (ht : P.underlying t = some .bool) (h : Rv P w t cs) : ∃ b, cs = [.bool b] := by
  obtain ⟨H, enc, fuel, x, h⟩ := h
  cases fuel with
  | zero => simp [DataW.trod] at h
  | succ n =>
    unfold DataW.trod at h
    rw [ht] at h
    split at h <;> simp_all
theorem rv_string {t : TypeId} {cs : List Value} (ht : P.underlying t = some .string) (h : Rv P w t cs) : ∃ s, cs = [.string s] ∧ s.size ≤ maxLen := by
  obtain ⟨H, enc, fuel, x, h⟩ := h
  cases fuel with
  | zero => simp [DataW.trod] at h
  | succ n =>
    unfold DataW.trod at h
    rw [ht] at h
    split at h <;> simp_all
theorem rv_struct {t : TypeId} {fs : Array Field} {cs : List Value} (ht : P.underlying t = some (.struct fs)) (h : Rv P w t cs) :
    cs.length = P.cellsOf t ∧ ∀ (i : Nat) (f : Field), fs[i]? = some f → Rv P w f.type ((cs.drop f.offset).take (P.cellsOf f.type)) := by
  obtain ⟨H, enc, fuel, x, h⟩ := h
  obtain ⟨xs, n, _, _, hl, hxs, hf⟩ := DataW.trod_struct ht h
  refine ⟨hl, fun i f hi => ?_⟩
  have hi2 : i < xs.length := by rw [hxs]; exact (Array.getElem?_eq_some_iff.1 hi).1
  exact ⟨H, enc, n, xs[i], by rw [hf i f hi, List.getElem?_eq_getElem hi2]⟩
theorem rv_array {t e : TypeId} {n : Nat} {cs : List Value} (ht : P.underlying t = some (.array n e)) (h : Rv P w t cs) :
    cs.length = P.cellsOf t ∧ ∀ i, i < n → Rv P w e ((cs.drop (i * P.cellsOf e)).take (P.cellsOf e)) := by
  obtain ⟨H, enc, fuel, x, h⟩ := h
  obtain ⟨xs, m, _, _, hl, hxs, hf⟩ := DataW.trod_array ht h
  refine ⟨hl, fun i hi => ?_⟩
  have hi2 : i < xs.length := by omega
  exact ⟨H, enc, m, xs[i], by rw [hf i hi, List.getElem?_eq_getElem hi2]⟩
/-- A slice: nil, or each element's cells lie one behind the other from an address on, and can be read. -/
theorem rv_slice {t e : TypeId} {cs : List Value} (ht : P.underlying t = some (.slice e)) (h : Rv P w t cs) :
    ∃ (A : Option Addr) (n c : Nat), cs = [.slice A n c] ∧ n ≤ c ∧ c ≤ maxLen ∧ (A = none → c = 0) ∧
      ∀ i, i < n → ∃ (a : Addr) (xs : List Value), A = some a ∧ xs.length = P.cellsOf e ∧ (∀ j, j < P.cellsOf e → w.cell? ((a.add (i * P.cellsOf e)).add j) = xs[j]?) ∧ Rv P w e xs := by
  obtain ⟨H, enc, fuel, x, h⟩ := h
  rcases Deep.open_slice ht h with ⟨h1, h2⟩ | ⟨a, len, cap, m, n, D, Pl, h1, h2, h3, h4, h5, h6, h7⟩
  · exact ⟨none, 0, 0, h1, Nat.le_refl _, by simp [maxLen], fun _ => rfl, fun i hi => absurd hi (by omega)⟩
  · refine ⟨some a, len, cap, h1, h3, h4, (by intro e; cases e), fun i hi => ?_⟩
    obtain ⟨cs', hc, hr⟩ := h7 i (by rw [h5]; simp; omega)
    obtain ⟨_, hl, hx⟩ := World.cells?_some hc
    exact ⟨a, cs', rfl, hl, hx, H, enc, n, _, hr⟩
theorem spot_none {w : World} {a : Addr} {v : Value} (h : w.cell? a = some v) : ∃ b o, a = ⟨b, o, none⟩ ∧ b < w.heap.size := by
  have hb := World.block_lt_of_cell? w a h
  obtain ⟨b, o, s⟩ := a
  have : s = none := by simpa using World.cell?_spot h
  subst this
  exact ⟨b, o, rfl, hb⟩
/-- A slice of elements of k cells: the cells of all its elements, one behind the other, and what each element's reading tells. -/
theorem rv_rows {t e : TypeId} {k : Nat} {cs : List Value} (ht : P.underlying t = some (.slice e)) (hk : P.cellsOf e = k) (hk0 : 0 < k) (h : Rv P w t cs) :
    ∃ (A : Option Addr) (n c : Nat) (xs : List (List Value)), cs = [.slice A n c] ∧ n ≤ c ∧ c ≤ maxLen ∧ xs.length = n ∧ (∀ x ∈ xs, x.length = k ∧ Rv P w e x) ∧ Rd w w.heap.size A xs.flatten := by
  obtain ⟨A, n, c, h1, h2, h3, h4, h5⟩ := rv_slice ht h
  rw [hk] at h5
  rcases Nat.eq_zero_or_pos n with h0 | h0
  · subst h0
    exact ⟨A, 0, c, [], h1, h2, h3, rfl, by simp, by simpa using Rd.nil⟩
  · obtain ⟨a0, x0, hA, hl0, hc0, _⟩ := h5 0 h0
    have h00 := hc0 0 hk0
    rw [List.getElem?_eq_getElem (by omega)] at h00
    have hadd0 : ((a0.add (0 * k)).add 0) = a0 := by simp [Addr.add]
    rw [hadd0] at h00
    obtain ⟨b, o, rfl, hb⟩ := spot_none h00
    subst hA
    have h6 : ∀ i : Nat, ∃ xs : List Value, i < n → xs.length = k ∧ (∀ j, j < k → w.cell? ⟨b, o + (i * k + j), none⟩ = xs[j]?) ∧ Rv P w e xs := fun i => by
      by_cases hi : i < n
      · obtain ⟨a, xs, ha, hl, hc, hr⟩ := h5 i hi
        injection ha with ha
        subst ha
        refine ⟨xs, fun _ => ⟨hl, fun j hj => ?_, hr⟩⟩
        have := hc j hj
        have e1 : ((⟨b, o, none⟩ : Addr).add (i * k)).add j = ⟨b, o + (i * k + j), none⟩ := by
          have ea : ∀ (o i : Nat), (⟨b, o, none⟩ : Addr).add i = ⟨b, o + i, none⟩ := fun o i => by unfold Addr.add; split <;> simp_all
          rw [ea, ea, Nat.add_assoc]
        rw [e1] at this
        exact this
      · exact ⟨[], fun h => absurd h hi⟩
    have h7 := Classical.axiomOfChoice h6
    obtain ⟨f, hf⟩ := h7
    have hlen : ∀ m, m ≤ n → (((List.range m).map f).flatten).length = m * k := fun m => by
      induction m with
      | zero => simp
      | succ m ih => intro hm; rw [List.range_succ]; simp [ih (by omega), (hf m (by omega)).1, Nat.add_mul]
    have hget : ∀ m, m ≤ n → ∀ i, (hi : i < (((List.range m).map f).flatten).length) → w.cell? ⟨b, o + i, none⟩ = some (((List.range m).map f).flatten)[i] := fun m => by
      induction m with
      | zero => intro _ i hi; simp at hi
      | succ m ih =>
        intro hm i hi
        have hsp : ((List.range (m + 1)).map f).flatten = ((List.range m).map f).flatten ++ f m := by rw [List.range_succ]; simp
        have hlm := hlen m (by omega)
        have hlm1 := hlen (m + 1) hm
        by_cases hlt : i < m * k
        · have := ih (by omega) i (by omega)
          rw [this]
          congr 1
          have h8 : ((List.range (m + 1)).map f).flatten[i]? = ((List.range m).map f).flatten[i]? := by rw [hsp, List.getElem?_append_left (by omega)]
          rw [List.getElem?_eq_getElem hi, List.getElem?_eq_getElem (by omega)] at h8
          injection h8 with h8
          exact h8.symm
        · rw [hlm1, Nat.add_mul, Nat.one_mul] at hi
          have h9 := (hf m (by omega)).2.1 (i - m * k) (by omega)
          have e2 : o + (m * k + (i - m * k)) = o + i := by omega
          rw [e2] at h9
          rw [h9]
          have h8 : ((List.range (m + 1)).map f).flatten[i]? = (f m)[i - m * k]? := by rw [hsp, List.getElem?_append_right (by omega), hlm]
          rw [← h8, List.getElem?_eq_getElem]
    refine ⟨_, n, c, (List.range n).map f, h1, h2, h3, by simp, fun x hx => ?_, fun i hi => ⟨b, o, rfl, hb, hget n (Nat.le_refl _) i hi⟩⟩
    obtain ⟨i, hi, rfl⟩ := List.mem_map.1 hx
    have := hf i (by simpa using hi)
    exact ⟨this.1, this.2.2⟩
/-- A slice of integers. -/
theorem rv_ints {t e : TypeId} {k : IntKind} {cs : List Value} (ht : P.underlying t = some (.slice e)) (he : P.underlying e = some (.int k)) (hc : P.cellsOf e = 1) (h : Rv P w t cs) :
    ∃ (A : Option Addr) (n c : Nat) (l : List Int), cs = [.slice A n c] ∧ n ≤ c ∧ c ≤ maxLen ∧ l.length = n ∧ (∀ z ∈ l, (Lit.int k z).wf = true) ∧ Rd w w.heap.size A (l.map (Value.int k)) := by
  obtain ⟨A, n, c, xs, h1, h2, h3, h4, h5, h6⟩ := rv_rows ht hc (by omega) h
  have h7 : ∀ ys : List (List Value), (∀ x ∈ ys, x.length = 1 ∧ Rv P w e x) → ∃ l : List Int, l.length = ys.length ∧ (∀ z ∈ l, (Lit.int k z).wf = true) ∧ ys.flatten = l.map (Value.int k) := fun ys => by
    induction ys with
    | nil => intro _; exact ⟨[], rfl, by simp, rfl⟩
    | cons x ys ih =>
      intro hx
      obtain ⟨l, hl1, hl2, hl3⟩ := ih (fun y hy => hx y (by simp [hy]))
      obtain ⟨n, rfl, hn⟩ := rv_int he (hx x (by simp)).2
      exact ⟨n :: l, by simp [hl1], by simpa using ⟨hn, hl2⟩, by simp [hl3]⟩
  obtain ⟨l, hl1, hl2, hl3⟩ := h7 xs h5
  exact ⟨A, n, c, l, h1, h2, h3, by omega, hl2, by rw [← hl3]; exact h6⟩
theorem okWide_array {r : Reach} {base n : Nat} {t e : TypeId} {v : Value} (ht : P.underlying t = some (.array n e)) (h : Value.okWide P w r base t v) : ∃ cs, v = .agg cs ∧ cs.size = P.cellsOf t := by
  simp only [Value.okWide, ht] at h
  obtain ⟨cs, h1, h2, _⟩ := h
  exact ⟨cs, h1, h2⟩
theorem wf_i64 {n : Int} (h : (Lit.int .i64 n).wf = true) : -9223372036854775808 ≤ n ∧ n ≤ 9223372036854775807 := by
  simpa [Lit.wf, IntKind.min, IntKind.max, IntKind.signed, IntKind.bits] using h
theorem wf_u64 {n : Int} (h : (Lit.int .u64 n).wf = true) : 0 ≤ n ∧ n ≤ 18446744073709551615 := by
  simpa [Lit.wf, IntKind.min, IntKind.max, IntKind.signed, IntKind.bits] using h
theorem wf_u8 {n : Int} (h : (Lit.int .u8 n).wf = true) : 0 ≤ n ∧ n ≤ 255 := by
  simpa [Lit.wf, IntKind.min, IntKind.max, IntKind.signed, IntKind.bits] using h
end
end Go.Proofs.YtahiaeaobbofbaaGreat
