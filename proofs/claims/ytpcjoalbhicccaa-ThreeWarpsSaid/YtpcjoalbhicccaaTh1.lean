/- Rectangles, and slants' numbers, of the program and of the references. -/
import Derived.Test.YtpcjoalbhicccaaImg07
set_option linter.unusedVariables false
namespace Go.Proofs.Ytpcjoalbhicccaa
open Go.RowKit
abbrev inR (x : Int) : Prop := -2147483648 ≤ x ∧ x ≤ 2147483648
abbrev rightR (a b c d : Int) : Prop := inR a ∧ inR b ∧ inR c ∧ inR d
abbrev emptyR (a b c d : Int) : Prop := ¬ rightR a b c d ∨ c ≤ a ∨ d ≤ b
abbrev rect4 (a b c d : Int) : Value := .agg #[.int .i64 a, .int .i64 b, .int .i64 c, .int .i64 d]
theorem wsub {a b : Int} (ha : inR a) (hb : inR b) : wrap64 (a - b) = a - b := IntWalk.wrap64_in _ ⟨by omega, by omega⟩
theorem bl_alloc {w w' : World} {o : Obj} (hb : Below (w.alloc o).heap.size (w.alloc o) w') : Below w.heap.size w w' :=
  ((Below.refl _ w).alloc (Nat.le_refl _) _).trans (hb.mono (by simp))
set_option maxHeartbeats 400000 in
theorem rin_any (x : Int) (w : World) : Calls Try.prog 60 #[.int .i64 x] w fun e w' => e = .returned (.bool (decide (inR x))) ∧ w = w' := by
  by_cases h1 : -2147483648 ≤ x
  all_goals
    go_enter Try.func60, Try.ntmps60
    go_wp2
    go_ret
    exact ⟨ret_bool (by simp [inR]; try omega), rfl⟩
set_option maxHeartbeats 400000 in
theorem rrin_any (x : Int) (w : World) : Calls Try.prog 51 #[.int .i64 x] w fun e w' => e = .returned (.bool (decide (inR x))) ∧ w = w' := by
  by_cases h1 : -2147483648 ≤ x
  all_goals
    go_enter Try.func51, Try.ntmps51
    go_wp2
    go_ret
    exact ⟨ret_bool (by simp [inR]; try omega), rfl⟩
set_option maxHeartbeats 1000000 in
theorem right_any (a b c d : Int) (w : World) : Calls Try.prog 46 #[rect4 a b c d] w fun e w' => e = .returned (.bool (decide (rightR a b c d))) ∧ Below w.heap.size w w' := by
  go_enter Try.func46, Try.ntmps46
  go_wp2_with (go_at_call 60; (with_reducible refine (rin_any _ _).mono ?_); rintro e w' ⟨rfl, rfl⟩)
  all_goals
    go_returns
    refine ⟨ret_bool ?_, by go_grown⟩
    simp_all [rightR, inR]
    try omega
set_option maxHeartbeats 1000000 in
theorem rright_any (a b c d : Int) (w : World) : Calls Try.prog 28 #[rect4 a b c d] w fun e w' => e = .returned (.bool (decide (rightR a b c d))) ∧ Below w.heap.size w w' := by
  go_enter Try.func28, Try.ntmps28
  go_wp2_with (go_at_call 51; (with_reducible refine (rrin_any _ _).mono ?_); rintro e w' ⟨rfl, rfl⟩)
  all_goals
    go_returns
    refine ⟨ret_bool ?_, by go_grown⟩
    simp_all [rightR, inR]
    try omega
set_option maxHeartbeats 1000000 in
theorem empty_any (a b c d : Int) (w : World) : Calls Try.prog 48 #[rect4 a b c d] w fun e w' => e = .returned (.bool (decide (emptyR a b c d))) ∧ Below w.heap.size w w' := by
  by_cases hr : rightR a b c d
  · have hd : decide (rightR a b c d) = true := decide_eq_true hr
    have HR := Lib.hid hr
    clear hr
    go_enter Try.func48, Try.ntmps48
    go_wp2_with (go_at_call 46; (with_reducible refine (right_any _ _ _ _ _).mono ?_); rintro e w' ⟨rfl, hb⟩; have hcb := bcell hb; have hb1 := bl_alloc hb)
    all_goals
      go_returns
      refine ⟨ret_bool ?_, hb1⟩
      have := HR.out
      simp_all [emptyR]
      try omega
  · have hd : decide (rightR a b c d) = false := decide_eq_false hr
    have HR := Lib.hid hr
    clear hr
    go_enter Try.func48, Try.ntmps48
    go_wp2_with (go_at_call 46; (with_reducible refine (right_any _ _ _ _ _).mono ?_); rintro e w' ⟨rfl, hb⟩; have hcb := bcell hb; have hb1 := bl_alloc hb)
    all_goals
      go_returns
      exact ⟨ret_bool (by rw [decide_eq_true (.inl HR.out : emptyR a b c d)]), hb1⟩
end Go.Proofs.Ytpcjoalbhicccaa
