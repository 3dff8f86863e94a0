/- Whether foot is alive. -/
import Derived.Test.YtjdboclibinjoaaFt13
import Derived.Test.YtjdboclibinjoaaFt14
set_option linter.unusedVariables false
namespace Go.Proofs.Ytjdboclibinjoaa
open Go.RowKit
theorem colsR_mem {m lo hi n : Int} (hok : okC m lo hi n) (j : Int) : MemR (colsR m lo hi n) j ↔ ∃ i, lo ≤ i ∧ i ≤ hi ∧ colAt m n i = some j := by
  unfold colsR
  rw [if_pos hok, (joinF_law _).2 j, cols_law hok.2.1 hok.2.2.1.1 hok.1]
theorem colsR_canon (m lo hi n : Int) : Canon (colsR m lo hi n) := by
  unfold colsR
  split
  · exact (joinF_law _).1
  · exact canon_nil
theorem alive2 : colsR 2 (-1) 1 5 = [(0, 2), (4, 5)] := by
  have hok : okC 2 (-1) 1 5 := by decide
  refine canon_ext (colsR_canon _ _ _ _) ⟨by simp, by simp⟩ fun j => ?_
  rw [colsR_mem hok, memR_cons, memR_one]
  constructor
  · rintro ⟨i, h1, h2, h3⟩
    have h3' : i % 5 = j := by simpa [colAt] using h3
    simp only
    omega
  · rintro (h | h)
    · exact ⟨j, by simp only at h; omega, by simp only at h; omega, by simp only at h; simp [colAt]; omega⟩
    · exact ⟨-1, by omega, by omega, by simp [colAt]; omega⟩
theorem alive3 : colsR 3 (-2) 0 5 = [(0, 2)] := by
  have hok : okC 3 (-2) 0 5 := by decide
  refine canon_ext (colsR_canon _ _ _ _) ⟨by simp, by simp⟩ fun j => ?_
  rw [colsR_mem hok, memR_one]
  constructor
  · rintro ⟨i, h1, h2, h3⟩
    have hi : i = -2 ∨ i = -1 ∨ i = 0 := by omega
    rcases hi with rfl | rfl | rfl <;> simp [colAt] at h3 <;> omega
  · intro h
    have hj : j = 0 ∨ j = 1 := by omega
    rcases hj with rfl | rfl
    · exact ⟨0, by omega, by omega, by simp [colAt]⟩
    · exact ⟨-2, by omega, by omega, by simp [colAt]⟩
theorem own_len {w : World} {base n : Nat} {v : Value} {xs : List Rn} (h : w.ownsRow base 35 2 v n (encR xs)) : xs.length = n := by
  have := h.1
  rw [encR_len] at this
  omega
set_option maxHeartbeats 4000000 in
theorem alive_any (w : World) : Calls Try.prog 10 #[] w fun e w' => e = .returned (.bool true) ∧ Below w.heap.size w w' := by
  have hc2 := fun W => columns_any 2 (-1) 1 5 W
  have hc3 := fun W => columns_any 3 (-2) 0 5 W
  rw [alive2] at hc2
  rw [alive3] at hc3
  go_enter Try.func10, Try.ntmps10
  go_wp2_with fail
  refine (hc2 _).mono ?_
  rintro e w1 ⟨v1, rfl, hown1, hb1⟩
  go_wp2_with fail
  refine (hc3 _).mono ?_
  rintro e w2 ⟨v2, rfl, hown2, hb2⟩
  have hown1' := own_below hown1 hb2 (Nat.le_refl _)
  obtain ⟨A1, c1, rfl, h31, h32, hA1, hr1, _⟩ := own_form2 hown1'
  obtain ⟨A2, c2, rfl, k31, k32, hA2, hr2, _⟩ := own_form2 hown2
  obtain ⟨g1, o1, rfl, _, p0, p1⟩ := rd_run hr1 0 (by simp)
  obtain ⟨g1', o1', e1, _, p2, p3⟩ := rd_run hr1 1 (by simp)
  injection e1 with e1
  injection e1 with e1 e1'
  subst e1; subst e1'
  obtain ⟨g2, o2, rfl, _, q0, q1⟩ := rd_run hr2 0 (by simp)
  simp at p0 p1 p2 p3 q0 q1
  go_wp2_with fail
  go_returns
  exact ⟨rfl, hb1.trans (hb2.mono hb1.size)⟩
end Go.Proofs.Ytjdboclibinjoaa
