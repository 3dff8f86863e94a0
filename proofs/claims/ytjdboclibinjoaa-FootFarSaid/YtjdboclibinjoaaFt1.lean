/- Rows of runs in memory; a row that is sorted. -/
import Derived.Test.YtjdboclibinjoaaFt0
import Derived.Test.YtjdboclibinjoaaApp
import Derived.Test.YtjdboclibinjoaaLie
import Derived.Shelf.SlSortCmp.InsertionK
import Derived.Lib.OwnBridge
set_option linter.unusedVariables false
namespace Go.Proofs.Ytjdboclibinjoaa
open Go.RowKit Go.Sort Go.Lib
def encRn (r : Rn) : List Value := [.int .i64 r.1, .int .i64 r.2]
def encR (rs : List Rn) : List Value := rs.flatMap encRn
theorem encR_len (rs : List Rn) : (encR rs).length = rs.length * 2 := by
  induction rs with
  | nil => rfl
  | cons r rs ih => show (encRn r ++ encR rs).length = _; rw [List.length_append, ih]; simp [encRn]; omega
theorem encR_append (a b : List Rn) : encR (a ++ b) = encR a ++ encR b := by simp [encR]
theorem encR_get : ∀ (rs : List Rn) (k : Nat) (hk : k < rs.length), (encR rs)[k * 2]? = some (.int .i64 rs[k].1) ∧ (encR rs)[k * 2 + 1]? = some (.int .i64 rs[k].2)
  | [], k, hk => absurd hk (by simp)
  | r :: rs, 0, _ => by simp [encR, encRn]
  | r :: rs, k + 1, hk => by
    have ih := encR_get rs k (by simpa using hk)
    have e : encR (r :: rs) = [.int .i64 r.1, .int .i64 r.2] ++ encR rs := rfl
    rw [e, show (k + 1) * 2 = k * 2 + 2 by omega, show k * 2 + 2 + 1 = (k * 2 + 1) + 2 by omega]
    simpa using ih
theorem encR_one : ∀ (rs : List Rn), ∀ u ∈ encR rs, u.oneCell' = true := by
  intro rs u hu
  obtain ⟨r, _, hr⟩ := List.mem_flatMap.1 hu
  simp [encRn] at hr
  rcases hr with rfl | rfl <;> rfl
theorem flat_encR (rs : List Rn) : flatK encRn 2 rs.toArray = (encR rs).toArray := by
  apply Array.ext
  · simp [encR_len]
  · intro t h1 h2
    have ht : t < rs.length * 2 := by simpa using h1
    have hk : t / 2 < rs.length := by omega
    obtain ⟨g0, g1⟩ := encR_get rs (t / 2) hk
    have e1 := get_flatK encRn 2 rs.toArray t (by simpa using ht)
    rw [getElem!_pos _ t h1] at e1
    rw [e1]
    have e2 : rs.toArray[t / 2]! = rs[t / 2] := by simp [hk]
    rw [e2]
    have hm : t % 2 = 0 ∨ t % 2 = 1 := by omega
    rcases hm with hm | hm
    · have : t / 2 * 2 = t := by omega
      rw [this] at g0
      rw [hm]
      have : (encR rs)[t]'(by rw [encR_len]; exact ht) = .int .i64 rs[t / 2].1 := by
        have := List.getElem?_eq_getElem (l := encR rs) (i := t) (by rw [encR_len]; exact ht)
        rw [this] at g0; exact Option.some.inj g0
      simp only [List.getElem_toArray]
      rw [this]; rfl
    · have : t / 2 * 2 + 1 = t := by omega
      rw [this] at g1
      rw [hm]
      have : (encR rs)[t]'(by rw [encR_len]; exact ht) = .int .i64 rs[t / 2].2 := by
        have := List.getElem?_eq_getElem (l := encR rs) (i := t) (by rw [encR_len]; exact ht)
        rw [this] at g1; exact Option.some.inj g1
      simp only [List.getElem_toArray]
      rw [this]; rfl
theorem rd_run {w : World} {B : Nat} {A : Option Addr} {rs : List Rn} (h : Rd w B A (encR rs)) (k : Nat) (hk : k < rs.length) :
    ∃ b o, A = some ⟨b, o, none⟩ ∧ b < B ∧ w.cell? ⟨b, o + k * 2, none⟩ = some (.int .i64 rs[k].1) ∧ w.cell? ⟨b, o + k * 2 + 1, none⟩ = some (.int .i64 rs[k].2) := by
  have hl := encR_len rs
  obtain ⟨g0, g1⟩ := encR_get rs k hk
  obtain ⟨b, o, e, hb, hc⟩ := h.get (k * 2) (by omega)
  obtain ⟨b', o', e', hb', hc'⟩ := h.get (k * 2 + 1) (by omega)
  rw [e] at e'
  injection e' with e'
  injection e' with e1 e2
  subst e1; subst e2
  refine ⟨b, o, e, hb, ?_, ?_⟩
  · rw [hc, ← List.getElem?_eq_getElem, g0]
  · rw [show o + k * 2 + 1 = o + (k * 2 + 1) by omega, hc', ← List.getElem?_eq_getElem, g1]
section
variable {w : World} {base n : Nat} {e : TypeId} {v : Value} {rs ys : List Rn}
theorem holdsK_own (h : w.ownsRow base e 2 v n (encR rs)) (hv : rs ≠ []) :
    ∃ g cap, v = .slice (some ⟨g, 0, none⟩) n cap ∧ base ≤ g ∧ g < w.heap.size ∧ rs.length = n ∧ HoldsK encRn 2 w g 0 rs.toArray := by
  have hl := h.1
  rw [encR_len] at hl
  rcases h.2 with ⟨e0, e1⟩ | ⟨g, cap, cur, rfl, hb, hg, hn, hm, hs, ht⟩
  · exact absurd (List.eq_nil_of_length_eq_zero (by omega)) hv
  · have hlt : g < w.heap.size := by
      rcases Nat.lt_or_ge g w.heap.size with h' | h'
      · exact h'
      · rw [Array.getElem?_eq_none h'] at hg; cases hg
    refine ⟨g, cap, rfl, hb, hlt, by omega, ?_⟩
    unfold HoldsK
    rw [flat_encR]
    intro j hj
    have hj' : j < (encR rs).length := by simpa using hj
    have hl2 := encR_len rs
    refine ⟨?_, by simp [World.frozen?, hg]⟩
    have e1 : (cur.toList.take (n * 2))[j]? = (encR rs)[j]? := by rw [ht]
    rw [List.getElem?_take, if_pos (by omega), Array.getElem?_toList, List.getElem?_eq_getElem (by omega)] at e1
    simp only [World.cell?, hg, Nat.zero_add]
    simp only [Option.isSome_none, Bool.false_eq_true, if_false]
    rw [e1]
    simp [getElem!_pos, hj']
theorem own_sorted {g cap : Nat} (h : w.ownsRow base e 2 (.slice (some ⟨g, 0, none⟩) n cap) n (encR rs)) (hy : ys.length = rs.length) (hg : g < w.heap.size) (q : Nat) (os : Array Obj) :
    (sortWorldK encRn 2 w g 0 q ys.toArray os).ownsRow base e 2 (.slice (some ⟨g, 0, none⟩) n cap) n (encR ys) := by
  have hl := h.1
  rw [encR_len] at hl
  rcases h.2 with ⟨e0, _⟩ | ⟨g', cap', cur, e0, hb, hg', hn, hm, hs, ht⟩
  · cases e0
  · injection e0 with e1 _ e3
    injection e1 with e1
    injection e1 with e1
    subst e1; subst e3
    have hl2 := encR_len ys
    refine ⟨by rw [hl2]; omega, .inr ⟨g, cap, putCells id 0 (encR ys).toArray cur, rfl, hb, ?_, hn, hm, by simpa [putCells] using hs, ?_⟩⟩
    · unfold sortWorldK
      rw [heap_grow_old _ _ (by simpa [putRowK, putRow, mapBlock, Sort.ahead] using hg)]
      unfold putRowK
      rw [flat_encR]
      simp [putRow, mapBlock, Sort.ahead, Array.getElem?_modify, hg', onCells]
    · apply List.ext_getElem?
      intro j
      rw [List.getElem?_take, Array.getElem?_toList]
      by_cases hj : j < n * 2
      · have hjc : j < cur.size := by omega
        simp only [if_pos hj, putCells, Array.getElem?_mapIdx, Array.getElem?_eq_getElem hjc, Option.map_some]
        rw [if_pos (by simp; omega), List.getElem?_eq_getElem (by omega)]
        have : j < (encR ys).length := by omega
        simp [getElem!_pos, this]
      · rw [if_neg hj, List.getElem?_eq_none (by omega)]
end
theorem below_sorted {w : World} {base g : Nat} (hg : base ≤ g) (hB : base ≤ w.heap.size) (q : Nat) (d : Array Rn) (os : Array Obj) : Below base w (sortWorldK encRn 2 w g 0 q d os) := by
  unfold sortWorldK putRowK
  have h1 := below_putRow (enc := id) (q := q) (d := flatK encRn 2 d) (Below.refl base w) hg
  refine h1.trans ⟨rfl, rfl, rfl, by simp, fun k hk => heap_grow_old _ _ ?_⟩
  have := h1.size
  omega
end Go.Proofs.Ytjdboclibinjoaa
