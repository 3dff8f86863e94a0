/- ages: Pop. -/
import Derived.Test.YtiefhmbffmphdaaAG15
set_option linter.unusedVariables false
namespace Go.Proofs.Ytiefhmbffmphdaa
open Go.RowKit
set_option maxRecDepth 100000 in
set_option maxHeartbeats 4000000 in
theorem Ag.pop {F : Nat → Prop} {w : World} {g : Nat} {now : Int} {m : List Int} (h : Ag F w g now m) (hm : ∀ k, k ∈ m → -9223372036854775808 ≤ k ∧ k ≤ 9223372036854775807) (hnow : now ≤ 1000000) :
    Calls Try.prog 11 #[.pointer (some ⟨g, 0, none⟩)] w fun e w' => e = .returned (.tuple #[.int .i64 (m.headD 0), .bool (decide (m ≠ []))]) ∧ Ag F w' g now (m.filter (· ≠ m.headD 0)) ∧ Only F w w' := by
  have hO := h.old
  cases m with
  | nil =>
    go_enter Try.func11, Try.ntmps11
    go_wp2_with (go_at_call 12; (with_reducible refine hO.mono ?_); rintro e w1 ⟨rfl, rfl⟩)
    go_returns
    exact ⟨rfl, h, only_refl F w⟩
  | cons k r =>
    have hD := h.drop (hm k (by simp)) hnow
    rw [decide_eq_true (by simp : k ∈ k :: r)] at hD
    have hO' : Calls Try.prog 12 #[.pointer (some ⟨g, 0, none⟩)] w fun e w' => e = .returned (.tuple #[.int .i64 k, .bool true]) ∧ w = w' := hO
    clear hO
    go_enter Try.func11, Try.ntmps11
    go_wp2_with (first
      | (go_at_call 12; (with_reducible refine hO'.mono ?_); rintro e w1 ⟨rfl, rfl⟩)
      | (go_at_call 8; (with_reducible refine hD.mono ?_); rintro e w2 ⟨rfl, h2, hO2⟩))
    go_returns
    exact ⟨rfl, h2, hO2⟩
end Go.Proofs.Ytiefhmbffmphdaa
