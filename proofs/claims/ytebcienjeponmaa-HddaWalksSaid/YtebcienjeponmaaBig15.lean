/- The reference's homographies: what is wrong. -/
import Derived.Test.YtebcienjeponmaaBig14
set_option linter.unusedVariables false
namespace Go.Proofs.Ytebcienjeponmaa
open Go.RowKit
def capL : List Int := [16777216, 16777216, 2147483648, 16777216, 16777216, 2147483648, 4096, 4096, 16777216]
def capCells : Array Value := #[.int .i64 16777216, .int .i64 16777216, .int .i64 2147483648, .int .i64 16777216, .int .i64 16777216, .int .i64 2147483648, .int .i64 4096, .int .i64 4096, .int .i64 16777216]
def InCap (ms : List Int) (k : Nat) : Prop := -(capL.getD k 0) ≤ ms.getD k 0 ∧ ms.getD k 0 ≤ capL.getD k 0
instance (ms : List Int) (k : Nat) : Decidable (InCap ms k) := inferInstanceAs (Decidable (_ ∧ _))
def allIn (ms : List Int) : Bool := (List.range 9).all (fun k => decide (InCap ms k))
def corX (w : Int) (k : Nat) : Int := if k % 2 = 1 then 2 * w - 1 else -1
def corY (h : Int) (k : Nat) : Int := if k / 2 = 1 then 2 * h - 1 else -1
def sgnS (es : List Int) (w h : Int) : Nat → Int
  | 0 => 0
  | k + 1 => sgnS es w h k + cmpI (undZ es 2 (corX w k) (corY h k) 2) 0
/-- What is wrong with the numbers ms for an image of w by h. -/
def chkZ (ms : List Int) (w h : Int) : Int :=
  if ms.length ≠ 9 then 12 else if allIn ms = false then 11 else if w < 1 ∨ 32768 < w ∨ h < 1 ∨ 32768 < h then 30 else if detZ ms = 0 then 40
  else if sgnS (adjZ ms) w h 4 = 4 ∨ sgnS (adjZ ms) w h 4 = -4 then 0 else 41
theorem capL_ok (k : Nat) (h : k < 9) : 4096 ≤ capL.getD k 0 ∧ capL.getD k 0 ≤ 2147483648 := by
  have : k = 0 ∨ k = 1 ∨ k = 2 ∨ k = 3 ∨ k = 4 ∨ k = 5 ∨ k = 6 ∨ k = 7 ∨ k = 8 := by omega
  rcases this with rfl | rfl | rfl | rfl | rfl | rfl | rfl | rfl | rfl <;> decide
theorem capCells_get (k : Nat) (h : k < 9) : capCells[k]? = some (.int .i64 (capL.getD k 0)) := by
  have : k = 0 ∨ k = 1 ∨ k = 2 ∨ k = 3 ∨ k = 4 ∨ k = 5 ∨ k = 6 ∨ k = 7 ∨ k = 8 := by omega
  rcases this with rfl | rfl | rfl | rfl | rfl | rfl | rfl | rfl | rfl <;> rfl
set_option maxHeartbeats 400000 in
theorem In18_any (a b : Int) (w : World) (hb0 : 0 ≤ b) (hb : b ≤ 9223372036854775807) :
    Calls Try.prog 26 #[.int .i64 a, .int .i64 b] w fun e w' => e = .returned (.bool (decide (-b ≤ a) && decide (a ≤ b))) ∧ w' = w := by
  by_cases h1 : -b ≤ a
  all_goals
    go_enter Try.func26, Try.ntmps26
    go_wp2
    go_ret
    exact ⟨ret_bool (by simp [h1] <;> omega), rfl⟩
theorem In18_yes (a b : Int) (w : World) (hb0 : 0 ≤ b) (hb : b ≤ 9223372036854775807) (h : -b ≤ a ∧ a ≤ b) :
    Calls Try.prog 26 #[.int .i64 a, .int .i64 b] w fun e w' => e = .returned (.bool true) ∧ w' = w :=
  (In18_any a b w hb0 hb).mono fun e w' ⟨h1, h2⟩ => ⟨by rw [h1]; simp [h], h2⟩
theorem In18_no (a b : Int) (w : World) (hb0 : 0 ≤ b) (hb : b ≤ 9223372036854775807) (h : ¬ (-b ≤ a ∧ a ≤ b)) :
    Calls Try.prog 26 #[.int .i64 a, .int .i64 b] w fun e w' => e = .returned (.bool false) ∧ w' = w :=
  (In18_any a b w hb0 hb).mono fun e w' ⟨h1, h2⟩ => ⟨by rw [h1]; simp; omega, h2⟩
theorem allIn_iff (ms : List Int) : allIn ms = true ↔ ∀ k, k < 9 → InCap ms k := by simp [allIn]
end Go.Proofs.Ytebcienjeponmaa
