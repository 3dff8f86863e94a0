/- ages: New, and an Ages that is zero. -/
import Derived.Test.YtiefhmbffmphdaaAG11
set_option linter.unusedVariables false
namespace Go.Proofs.Ytiefhmbffmphdaa
open Go.RowKit
abbrev agZ : Array Value := #[.slice none 0 0, .map none, .int .i64 0]
theorem ag_zero {w : World} {g : Nat} (h : Bk w g 29 agZ) : Ag (fun i => i = g) w g 0 [] := by
  refine ⟨⟨none, 0, 0, 0, .map none, fun _ => 0, fun _ => 0, fun _ => 0, [], fun _ => none, fun i => i = g, ⟨h, World.ownsRow_nil w 0 _ 1, by omega, by omega, rfl, (fun b hb => by cases hb), by omega⟩, fun j h1 h2 => by omega, ag_nil _ _ _, rfl, (fun i h => h), .inl ⟨rfl, rfl⟩, by omega, by simp, by omega⟩, fun i e => by rw [e]; exact h.lt⟩
theorem agnew_any (w : World) : Calls Try.prog 5 #[] w fun e w' => e = .returned (.pointer (some ⟨w.heap.size, 0, none⟩)) ∧ w' = w.alloc (.cells agZ 29) := by
  go_enter Try.func5, Try.ntmps5
  go_wp2_with fail
  go_returns
  exact ⟨rfl, rfl⟩
end Go.Proofs.Ytiefhmbffmphdaa
