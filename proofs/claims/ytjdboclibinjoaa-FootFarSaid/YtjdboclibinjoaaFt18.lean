/- The law: runs that are joined: its plain part, and what is given. -/
import Derived.Test.YtjdboclibinjoaaFt17
set_option linter.unusedVariables false
namespace Go.Proofs.Ytjdboclibinjoaa
open Go.RowKit
theorem cb_int : Try.prog.cellsOf 3 = 1 := by kernel_rfl
theorem cb_run : Try.prog.cellsOf 35 = 2 := by kernel_rfl
def I64R (r : Rn) : Prop := (-9223372036854775808 ≤ r.1 ∧ r.1 ≤ 9223372036854775807) ∧ (-9223372036854775808 ≤ r.2 ∧ r.2 ≤ 9223372036854775807)
theorem wf64 {n : Int} (h : (Lit.int .i64 n).wf = true) : -9223372036854775808 ≤ n ∧ n ≤ 9223372036854775807 := by
  simp [Lit.wf, IntKind.min, IntKind.max, IntKind.bits, IntKind.signed] at h
  omega
set_option maxRecDepth 100000 in
theorem open_run {w : World} {cs : List Value} (h : Rv Try.prog w 35 cs) : ∃ r : Rn, cs = encRn r ∧ I64R r := by
  obtain ⟨hl, hf⟩ := rv_struct Try.underlying35 h
  rw [cb_run] at hl
  match cs, hl with
  | [v0, v1], _ =>
    have g0 : Rv Try.prog w 3 (([v0, v1].drop 0).take (Try.prog.cellsOf 3)) := hf 0 _ rfl
    have g1 : Rv Try.prog w 3 (([v0, v1].drop 1).take (Try.prog.cellsOf 3)) := hf 1 _ rfl
    rw [cb_int] at g0 g1
    obtain ⟨a, e0, i0⟩ := rv_int Try.underlying3 g0
    obtain ⟨b, e1, i1⟩ := rv_int Try.underlying3 g1
    simp at e0 e1
    subst e0 e1
    exact ⟨(a, b), rfl, wf64 i0, wf64 i1⟩
theorem runs_of {w : World} : ∀ xs : List (List Value), (∀ x ∈ xs, x.length = 2 ∧ Rv Try.prog w 35 x) → ∃ rs : List Rn, xs.flatten = encR rs ∧ rs.length = xs.length ∧ ∀ r ∈ rs, I64R r
  | [], _ => ⟨[], rfl, rfl, by simp⟩
  | x :: xs, h => by
    obtain ⟨rs, h1, h2, h3⟩ := runs_of xs (fun y hy => h y (by simp [hy]))
    obtain ⟨r, e, hr⟩ := open_run (h x (by simp)).2
    refine ⟨r :: rs, ?_, by simp [h2], ?_⟩
    · rw [List.flatten_cons, h1, e]; rfl
    · intro y hy
      rcases List.mem_cons.1 hy with rfl | hy
      · exact hr
      · exact h3 y hy
theorem open_runs {w : World} {A : Option Addr} {n c : Nat} (h : Rv Try.prog w 23 [.slice A n c]) : n ≤ c ∧ c ≤ maxLen ∧ ∃ rs : List Rn, rs.length = n ∧ Rd w w.heap.size A (encR rs) ∧ ∀ r ∈ rs, I64R r := by
  obtain ⟨A', n', c', xs, e, h1, h2, h3, h4, h5⟩ := rv_rows Try.underlying23 cb_run (by omega) h
  simp at e
  obtain ⟨rfl, rfl, rfl⟩ := e
  obtain ⟨rs, g1, g2, g3⟩ := runs_of xs h4
  rw [g1] at h5
  exact ⟨h1, h2, rs, by omega, h5, g3⟩
def plR (r : Rn) : Bool := !(decide (r.1 < r.2) && (decide (r.1 < 0) || decide (400 < r.2)))
def plB (rs : List Rn) : Bool := rs.all plR
theorem plB_snoc (rs : List Rn) (k : Nat) (hk : k < rs.length) : plB (rs.take (k + 1)) = (plB (rs.take k) && plR rs[k]) := by
  rw [List.take_succ_eq_append_getElem hk]
  unfold plB
  rw [List.all_append]
  simp
theorem plB_mem {rs : List Rn} (h : plB rs = true) {i : Int} (hm : MemR rs i) : 0 ≤ i ∧ i < 400 := by
  obtain ⟨r, hr, h1, h2⟩ := hm
  have := List.all_eq_true.1 h r hr
  unfold plR at this
  simp at this
  omega
/-- What is there so far. -/
def bsJ (rs : List Rn) (j : Nat) : List Bool := (List.range 400).map fun q : Nat => decide (q < j) && hasB rs (q : Int)
theorem bsJ_len (rs : List Rn) (j : Nat) : (bsJ rs j).length = 400 := by simp [bsJ]
theorem bsJ_get (rs : List Rn) (j q : Nat) (hq : q < 400) : (bsJ rs j)[q]? = some (decide (q < j) && hasB rs (q : Int)) := by
  unfold bsJ
  rw [List.getElem?_map, List.getElem?_range hq]
  rfl
theorem bsJ_0 (rs : List Rn) : bsJ rs 0 = List.replicate 400 false := by
  apply List.ext_getElem?
  intro q
  by_cases hq : q < 400
  · rw [bsJ_get rs 0 q hq, List.getElem?_replicate, if_pos hq]; simp
  · rw [List.getElem?_eq_none (by rw [bsJ_len]; omega), List.getElem?_eq_none (by rw [List.length_replicate]; omega)]
theorem bsJ_set0 (rs : List Rn) (j : Nat) : (bsJ rs j).set j (hasB (rs.take 0) (j : Int)) = bsJ rs j := by
  apply List.ext_getElem?
  intro q
  rw [List.getElem?_set]
  by_cases hj : j = q
  · subst hj
    rw [if_pos rfl]
    by_cases hq : j < 400
    · rw [if_pos (by rw [bsJ_len]; exact hq), bsJ_get rs j j hq]; simp [hasB]
    · rw [if_neg (by rw [bsJ_len]; exact hq), List.getElem?_eq_none (by rw [bsJ_len]; omega)]
  · rw [if_neg hj]
theorem bsJ_setN (rs : List Rn) (j : Nat) : (bsJ rs j).set j (hasB rs (j : Int)) = bsJ rs (j + 1) := by
  apply List.ext_getElem?
  intro q
  rw [List.getElem?_set]
  by_cases hj : j = q
  · subst hj
    rw [if_pos rfl]
    by_cases hq : j < 400
    · rw [if_pos (by rw [bsJ_len]; exact hq), bsJ_get rs (j + 1) j hq]; simp
    · rw [if_neg (by rw [bsJ_len]; exact hq), List.getElem?_eq_none (by rw [bsJ_len]; omega)]
  · rw [if_neg hj]
    by_cases hq : q < 400
    · rw [bsJ_get rs j q hq, bsJ_get rs (j + 1) q hq]
      congr 2
      rw [Bool.eq_iff_iff]
      simp
      omega
    · rw [List.getElem?_eq_none (by rw [bsJ_len]; omega), List.getElem?_eq_none (by rw [bsJ_len]; omega)]
def cntJ (rs : List Rn) (j : Nat) : Nat := (List.range j).countP fun q : Nat => hasB rs (q : Int)
theorem cntJ_succ (rs : List Rn) (j : Nat) : cntJ rs (j + 1) = cntJ rs j + if hasB rs (j : Int) = true then 1 else 0 := by
  unfold cntJ
  rw [List.range_succ, List.countP_append]
  simp
theorem cntJ_le (rs : List Rn) (j : Nat) : cntJ rs j ≤ j := by
  have := List.countP_le_length (l := List.range j) (p := fun q : Nat => hasB rs (q : Int))
  rw [List.length_range] at this
  exact this
theorem cntF_plain {rs : List Rn} (h : plB rs = true) : cntF rs = cntJ rs 400 := by
  have hr := canon_range (joinF_law rs).1 (lo := 0) (hi := 400) (fun i hi => plB_mem h (((joinF_law rs).2 i).1 hi))
  have h1 := cnt_all 0 400 (joinF_law rs).1 (fun r hr' => by have := hr r hr'; omega)
  unfold cntF
  rw [h1]
  have e : (fun j : Nat => hasB (joinF rs) (0 + (j : Int))) = fun j : Nat => hasB rs (j : Int) := by
    funext j
    rw [hasB_joinF, Int.zero_add]
  rw [e]
  have := cntJ_le rs 400
  unfold cntJ at *
  omega
theorem runs_plain {rs out : List Rn} (h : plB rs = true) (hc : Canon out) (hm : ∀ j, MemR out j ↔ 0 ≤ j ∧ (bsJ rs 400)[j.toNat]? = some true) : out = joinF rs := by
  refine canon_ext hc (joinF_law rs).1 fun j => ?_
  rw [hm j, (joinF_law rs).2 j]
  constructor
  · rintro ⟨h0, h1⟩
    by_cases hq : j.toNat < 400
    · rw [bsJ_get rs 400 _ hq] at h1
      injection h1 with h1
      simp at h1
      rw [← hasB_iff]
      have := h1.2
      rwa [show max j 0 = j by omega] at this
    · rw [List.getElem?_eq_none (by rw [bsJ_len]; omega)] at h1; cases h1
  · intro hj
    have hb := plB_mem h hj
    refine ⟨hb.1, ?_⟩
    rw [bsJ_get rs 400 _ (by omega)]
    congr 1
    rw [show ((j.toNat : Nat) : Int) = j by omega, (hasB_iff rs j).2 hj]
    simp
    omega
end Go.Proofs.Ytjdboclibinjoaa
