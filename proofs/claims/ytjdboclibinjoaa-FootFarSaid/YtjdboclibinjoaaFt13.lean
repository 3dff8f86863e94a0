/- foot.Columns at every input. -/
import Derived.Test.YtjdboclibinjoaaFt12
set_option linter.unusedVariables false
namespace Go.Proofs.Ytjdboclibinjoaa
open Go.RowKit
set_option maxHeartbeats 4000000 in
theorem columns_bad (m lo hi n : Int) (w : World) (hok : ¬ okC m lo hi n) :
    Calls Try.prog 9 #[.int .i64 m, .int .i64 lo, .int .i64 hi, .int .i64 n] w fun e w' => e = .returned (.slice none 0 0) ∧ w' = w := by
  unfold okC at hok
  have hof1 := fun W => off_any lo W
  have hof2 := fun W => off_any hi W
  cases ho1 : offB lo <;> cases ho2 : offB hi <;> rw [ho1] at hof1 <;> rw [ho2] at hof2
  all_goals
    rcases (show hi < lo ∨ lo ≤ hi by omega) with c1 | c1
    · clear hok
      go_enter Try.func9, Try.ntmps9
      go_wp2
      go_returns
      exact ⟨rfl, rfl⟩
    rcases (show m < 0 ∨ 0 ≤ m by omega) with c2 | c2
    · clear hok
      go_enter Try.func9, Try.ntmps9
      go_wp2
      go_returns
      exact ⟨rfl, rfl⟩
    rcases (show 3 < m ∨ m ≤ 3 by omega) with c3 | c3
    · clear hok
      go_enter Try.func9, Try.ntmps9
      go_wp2
      go_returns
      exact ⟨rfl, rfl⟩
    rcases (show n < 1 ∨ 1 ≤ n by omega) with c4 | c4
    · clear hok
      go_enter Try.func9, Try.ntmps9
      go_wp2
      go_returns
      exact ⟨rfl, rfl⟩
    rcases (show 2147483648 < n ∨ n ≤ 2147483648 by omega) with c5 | c5
    · clear hok
      go_enter Try.func9, Try.ntmps9
      go_wp2
      go_returns
      exact ⟨rfl, rfl⟩
    first
      | (exfalso; exact hok ⟨c1, ⟨c2, c3⟩, ⟨c4, c5⟩, ho1, ho2⟩)
      | (clear hok
         go_enter Try.func9, Try.ntmps9
         go_wp2_with (first
           | (go_at_call 42; (with_reducible refine (hof1 _).mono ?_); rintro e w1 ⟨rfl, rfl⟩)
           | (go_at_call 42; (with_reducible refine (hof2 _).mono ?_); rintro e w2 ⟨rfl, rfl⟩))
         go_returns
         exact ⟨rfl, rfl⟩)
theorem columns_any (m lo hi n : Int) (w : World) :
    Calls Try.prog 9 #[.int .i64 m, .int .i64 lo, .int .i64 hi, .int .i64 n] w fun e w' => ∃ v, e = .returned v ∧ w'.ownsRow w.heap.size 35 2 v (colsR m lo hi n).length (encR (colsR m lo hi n)) ∧ Below w.heap.size w w' := by
  unfold colsR
  by_cases hok : okC m lo hi n
  · rw [if_pos hok]
    exact columns_ok m lo hi n w hok
  · rw [if_neg hok]
    refine (columns_bad m lo hi n w hok).mono ?_
    rintro e w' ⟨rfl, rfl⟩
    exact ⟨_, rfl, by simpa [encR] using World.ownsRow_nil _ _ _ _, Below.refl _ _⟩
theorem colsR_len (m lo hi n : Int) : (colsR m lo hi n).length ≤ 3 := by
  unfold colsR
  split
  · rename_i h
    exact Nat.le_trans (joinF_len _) (colsF_len h)
  · simp
end Go.Proofs.Ytjdboclibinjoaa
