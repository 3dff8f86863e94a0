/- meter: what is taken of a meter. -/
import Derived.Test.YtlbiiljncacdoaaGreatRowG
import Derived.BigRegion
import Derived.RegionTactic
set_option linter.unusedVariables false
namespace Go.Proofs.YtlbiiljncacdoaaGreat
open Go.RowKit
abbrev meA (u f : Int) : Array Value := #[.int .i64 u, .int .i64 f]
theorem mused_any (g : Nat) (u f : Int) (w : World) (hK : Bk w g 115 (meA u f)) : Calls Tryz.prog 65 #[.pointer (some ⟨g, 0, none⟩)] w fun e w' => e = .returned (.int .i64 u) ∧ w = w' := by
  obtain ⟨c0, c1⟩ := hK.cell2
  go_enter Tryz.func65, Tryz.ntmps65
  go_wp2
  go_ret
  exact ⟨rfl, rfl⟩
theorem mleft_any (g : Nat) (u f : Int) (w : World) (hK : Bk w g 115 (meA u f)) : Calls Tryz.prog 66 #[.pointer (some ⟨g, 0, none⟩)] w fun e w' => e = .returned (.int .i64 f) ∧ w = w' := by
  obtain ⟨c0, c1⟩ := hK.cell2
  go_enter Tryz.func66, Tryz.ntmps66
  go_wp2
  go_ret
  exact ⟨rfl, rfl⟩
theorem mused_nil (w : World) : Calls Tryz.prog 65 #[.pointer none] w fun e w' => e = .returned (.int .i64 0) ∧ w = w' := by
  go_enter Tryz.func65, Tryz.ntmps65
  go_wp2
  go_ret
  exact ⟨rfl, rfl⟩
theorem mleft_nil (w : World) : Calls Tryz.prog 66 #[.pointer none] w fun e w' => e = .returned (.int .i64 0) ∧ w = w' := by
  go_enter Tryz.func66, Tryz.ntmps66
  go_wp2
  go_ret
  exact ⟨rfl, rfl⟩
set_option maxHeartbeats 1000000 in
theorem mnew_any (m : Int) (w : World) : Calls Tryz.prog 63 #[.int .i64 m] w fun e w' => e = .returned (.pointer (some ⟨w.heap.size, 0, none⟩)) ∧ w.alloc (.cells (meA 0 (max 0 (min m 4611686018427387904))) 115) = w' := by
  go_enter Tryz.func63, Tryz.ntmps63
  go_wp2
  all_goals
    go_returns
    exact ⟨rfl, congrArg (fun z : Int => w.alloc (.cells (meA 0 z) 115)) (by omega)⟩
set_option maxHeartbeats 1000000 in
theorem mtake_no (g : Nat) (u f n : Int) (w : World) (hK : Bk w g 115 (meA u f)) (h : n < 0 ∨ f < n) : Calls Tryz.prog 64 #[.pointer (some ⟨g, 0, none⟩), .int .i64 n] w fun e w' => e = .returned (.bool false) ∧ w = w' := by
  by_cases h0 : n < 0
  · go_enter Tryz.func64, Tryz.ntmps64
    go_wp2_with (go_at_call 66; (with_reducible refine (mleft_any g u f _ hK).mono ?_); rintro e w' ⟨rfl, rfl⟩)
    go_returns
    exact ⟨rfl, rfl⟩
  · have h1 : f < n := by omega
    clear h
    go_enter Tryz.func64, Tryz.ntmps64
    go_wp2_with (go_at_call 66; (with_reducible refine (mleft_any g u f _ hK).mono ?_); rintro e w' ⟨rfl, rfl⟩)
    go_returns
    exact ⟨rfl, rfl⟩
set_option maxHeartbeats 1000000 in
theorem mtake_nil (n : Int) (w : World) : Calls Tryz.prog 64 #[.pointer none, .int .i64 n] w fun e w' => e = .returned (.bool (decide (n = 0))) ∧ w = w' := by
  by_cases h0 : n = 0
  · subst h0
    go_enter Tryz.func64, Tryz.ntmps64
    go_wp2_with (go_at_call 66; (with_reducible refine (mleft_nil _).mono ?_); rintro e w' ⟨rfl, rfl⟩)
    go_returns
    exact ⟨rfl, rfl⟩
  · have hd := Lib.hid (show decide (n = 0) = false by simp [h0])
    rcases Int.lt_or_gt_of_ne h0 with h1 | h1
    all_goals
      clear h0
      go_enter Tryz.func64, Tryz.ntmps64
      go_wp2_with (go_at_call 66; (with_reducible refine (mleft_nil _).mono ?_); rintro e w' ⟨rfl, rfl⟩)
      go_returns
      exact ⟨by rw [hd.out]; rfl, rfl⟩
set_option maxHeartbeats 2000000 in
theorem mtake_yes (g : Nat) (u f n : Int) (w : World) (hK : Bk w g 115 (meA u f)) (h0 : 0 ≤ n) (h1 : n ≤ f) (h2 : 0 ≤ u) (h3 : u + f ≤ 4611686018427387904) :
    Calls Tryz.prog 64 #[.pointer (some ⟨g, 0, none⟩), .int .i64 n] w fun e w' => e = .returned (.bool true) ∧ Bk w' g 115 (meA (u + n) (f - n)) ∧ w.grownBy w' (some g) ∧ w'.heap.size = w.heap.size := by
  have k1 : wrap64 (u + n) = u + n := IntWalk.wrap64_in _ ⟨by omega, by omega⟩
  have k2 : wrap64 (f - n) = f - n := IntWalk.wrap64_in _ ⟨by omega, by omega⟩
  have hn : ¬ f < n := by omega
  have hn0 : ¬ n < 0 := by omega
  have hS := (hK.set2 (.int .i64 (u + n)) (.int .i64 (f - n))).drew
  obtain ⟨c0, c1⟩ := hK.cell2
  have f0 := hK.frozen 0
  have f1 := hK.frozen 1
  go_enter Tryz.func64, Tryz.ntmps64
  go_wp2_with (go_at_call 66; (with_reducible refine (mleft_any g u f _ hK).mono ?_); rintro e w' ⟨rfl, rfl⟩)
  go_region
  all_goals
    go_wp2
    go_returns
    exact ⟨rfl, hS, gb_drew (gb2 w g _ _), by simp⟩
end Go.Proofs.YtlbiiljncacdoaaGreat
