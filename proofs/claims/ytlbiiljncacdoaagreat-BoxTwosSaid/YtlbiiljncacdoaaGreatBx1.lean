/- Rectangles within others; boxes: has, around. -/
import Derived.Test.YtlbiiljncacdoaaGreatRc2
import Derived.Test.YtlbiiljncacdoaaGreatQTail
import Derived.Test.YtlbiiljncacdoaaGreatLv
import Derived.Laws.StructEq
set_option linter.unusedVariables false
namespace Go.Proofs.YtlbiiljncacdoaaGreat
open Go.RowKit
attribute [local go_sem high] run_maxM run_minM
theorem eq4_bool (a b c d e f g h : Int) : decide ((a, b, c, d) = (e, f, g, h)) = ((a == e) && ((b == f) && ((c == g) && (d == h)))) := by
  by_cases h1 : a = e <;> by_cases h2 : b = f <;> by_cases h3 : c = g <;> by_cases h4 : d = h <;> simp [h1, h2, h3, h4]
theorem eql_rect (a b c d e f g h : Int) (w : World) : (binOp .eql 78 (rc_rect4 a b c d) (rc_rect4 e f g h)).run Tryz.prog w = .ok (.bool (decide ((a, b, c, d) = (e, f, g, h)))) w := by
  rw [eq4_bool]
  simp [go_sem, Tryz.underlying78]
  by_cases h1 : a = e <;> by_cases h2 : b = f <;> by_cases h3 : c = g <;> by_cases h4 : d = h <;> simp [h1, h2, h3, h4]
theorem eql_box (a b c d e f g h : Int) (w : World) : (binOp .eql 83 (rc_rect4 a b c d) (rc_rect4 e f g h)).run Tryz.prog w = .ok (.bool (decide ((a, b, c, d) = (e, f, g, h)))) w := by
  rw [eq4_bool]
  simp [go_sem, Tryz.underlying83]
  by_cases h1 : a = e <;> by_cases h2 : b = f <;> by_cases h3 : c = g <;> by_cases h4 : d = h <;> simp [h1, h2, h3, h4]
theorem neq_box (a b c d e f g h : Int) (w : World) : (binOp .neq 83 (rc_rect4 a b c d) (rc_rect4 e f g h)).run Tryz.prog w = .ok (.bool (!decide ((a, b, c, d) = (e, f, g, h)))) w := by
  rw [eq4_bool]
  simp [go_sem, Tryz.underlying83]
  by_cases h1 : a = e <;> by_cases h2 : b = f <;> by_cases h3 : c = g <;> by_cases h4 : d = h <;> simp [h1, h2, h3, h4]
set_option maxRecDepth 100000 in
set_option maxHeartbeats 4000000 in
theorem rcin_any (a b c d e f g h : Int) (w : World) (h1 : ¬ rc_emptyR a b c d) : Calls Tryz.prog 110 #[rc_rect4 a b c d, rc_rect4 e f g h] w fun e' w' => e' = .returned (.bool (decide (bothR a b c d e f g h = (a, b, c, d)))) ∧ Below w.heap.size w w' := by
  have hL := ((Lie.start w).alloc (rc_rectA a b c d) 78).alloc (rc_rectA e f g h) 78
  simp only [World.size_alloc] at hL
  have k2 := hL.k 1 (by simp)
  have k3 := hL.k 0 (by simp)
  simp only [List.getElem_cons_zero, List.getElem_cons_succ] at k2 k3
  have hE1 := fun w' => rc_empty_any a b c d w'
  rw [show decide (rc_emptyR a b c d) = false from decide_eq_false h1] at hE1
  have hB := fun w' => both_any a b c d e f g h w'
  obtain ⟨⟨p, q, r, s⟩, hP⟩ : ∃ p, bothR a b c d e f g h = p := ⟨_, rfl⟩
  rw [hP] at hB ⊢
  clear hP h1
  dsimp only [rcv] at hB
  have hq := eql_rect p q r s a b c d
  go_enter Tryz.func110, Tryz.ntmps110
  go_wp2_with fail
  generalize hw1 : (w.alloc (.cells (rc_rectA a b c d) 78)).alloc (.cells (rc_rectA e f g h) 78) = w1 at *
  clear hw1
  obtain ⟨d0, d1, d2, d3⟩ := k2.cell4
  obtain ⟨f0, f1, f2, f3⟩ := k3.cell4
  have r0 := fun (n : Nat) (os : Array Obj) => cell_regrown d0 n os
  have r1 := fun (n : Nat) (os : Array Obj) => cell_regrown d1 n os
  have r2 := fun (n : Nat) (os : Array Obj) => cell_regrown d2 n os
  have r3 := fun (n : Nat) (os : Array Obj) => cell_regrown d3 n os
  have s0 := fun (n : Nat) (os : Array Obj) => cell_regrown f0 n os
  have s1 := fun (n : Nat) (os : Array Obj) => cell_regrown f1 n os
  have s2 := fun (n : Nat) (os : Array Obj) => cell_regrown f2 n os
  have s3 := fun (n : Nat) (os : Array Obj) => cell_regrown f3 n os
  refine wp_region_quiet_below (by kernel_rfl) (by kernel_rfl) ?_
  repeat (first
    | go_big_quiet_step ((first | with_reducible exact quiet_below (hE1 _) | with_reducible exact quiet_below (hB _)))
    | quiet_step ((first | with_reducible exact quiet_below (hE1 _) | with_reducible exact quiet_below (hB _))))
  refine wpQuiet_nil ?_
  intro _ hw'
  obtain ⟨⟨dd, os⟩, hw''⟩ := hw'
  subst hw''
  have hbx := below_regrown w1 dd os
  generalize Go.Sort.grow (redrawn w1 dd) os = wx at *
  have hb := (hL.nx hbx).bel
  clear r0 r1 r2 r3 s0 s1 s2 s3 hE1 hB
  go_wp2_with fail
  go_returns
  exact ⟨ret_bool (by simp), hb⟩
end Go.Proofs.YtlbiiljncacdoaaGreat
