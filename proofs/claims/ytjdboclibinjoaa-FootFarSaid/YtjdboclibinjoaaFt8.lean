/- Whether two are the same; which columns are asked for, by modes. -/
import Derived.Test.YtjdboclibinjoaaFt7
set_option linter.unusedVariables false
namespace Go.Proofs.Ytjdboclibinjoaa
open Go.RowKit
set_option maxHeartbeats 4000000 in
theorem same_any (xs : List Rn) (A A' : Option Addr) (n c c' : Nat) (w : World) (hn : xs.length = n) (hn2 : n ≤ 4000000000) (hr : Rd w w.heap.size A (encR xs)) (hr' : Rd w w.heap.size A' (encR xs)) :
    Calls Try.prog 11 #[.slice A n c, .slice A' n c'] w fun e w' => e = .returned (.bool true) ∧ Below w.heap.size w w' := by
  go_enter Try.func11, Try.ntmps11
  go_wp2_with fail
  go_loopw [5] (fun v wr => ∃ k : Nat, k ≤ n ∧ v = .int .i64 k ∧ Below w.heap.size w wr) (fun v _ => n - (intOf v).toNat)
  case atStart => exact ⟨0, by omega, rfl, by go_grown⟩
  case round =>
    obtain ⟨k, hk, rfl, hbr⟩ := hrel
    by_cases hlt : k < n
    · have hk2 : k < xs.length := by omega
      obtain ⟨b, o, rfl, hbb, hc0, hc1⟩ := rd_run (hr.below hbr) k hk2
      obtain ⟨b', o', rfl, hbb', hd0, hd1⟩ := rd_run (hr'.below hbr) k hk2
      generalize xs[k] = r at *
      obtain ⟨x, y⟩ := r
      simp only at hc0 hc1 hd0 hd1
      go_wp2_with fail
      go_quiet (fail)
      go_wp2_with fail
      exact ⟨⟨k + 1, by omega, by go_num, below_drewN hbr _⟩, by simp [intOf]; omega⟩
    · obtain rfl : k = n := by omega
      go_wp2_with fail
      go_returns
      exact ⟨rfl, hbr⟩
/-- Columns of so many things. -/
abbrev askV (lo hi n : Int) : Value := .agg #[.int .i64 lo, .int .i64 hi, .int .i64 n]
theorem run_any (x y : Int) (w : World) (hx : -9223372036854775808 ≤ y + 1 ∧ y + 1 ≤ 9223372036854775807) :
    Calls Try.prog 103 #[.int .i64 x, .int .i64 y] w fun e w' => e = .returned (.agg #[.int .i64 x, .int .i64 (y + 1)]) ∧ Below w.heap.size w w' := by
  obtain ⟨h1, h2⟩ := hx
  go_enter Try.func103, Try.ntmps103
  go_wp2
  go_returns
  exact ⟨rfl, by go_grown⟩
end Go.Proofs.Ytjdboclibinjoaa
