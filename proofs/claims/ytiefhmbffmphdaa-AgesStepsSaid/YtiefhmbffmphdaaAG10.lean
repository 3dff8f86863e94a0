/- ages: find, Has. -/
import Derived.Test.YtiefhmbffmphdaaAG9
import Derived.Test.YtiefhmbffmphdaaMK
set_option linter.unusedVariables false
namespace Go.Proofs.Ytiefhmbffmphdaa
open Go.RowKit
theorem afind_nil (k : Int) (w : World) : Calls Try.prog 18 #[.pointer none, .int .i64 k] w fun e w' => e = .returned (.pointer none) ∧ w = w' := by
  go_enter Try.func18, Try.ntmps18
  go_wp2_with fail
  go_returns
  exact ⟨rfl, rfl⟩
theorem afind_any {w : World} {g : Nat} {sl mv : Value} {now : Int} (hg : Bk w g 29 #[sl, mv, .int .i64 now]) (k : Int) (o : Option Nat) (hlk : (Instr.lookup 27 mv (.int .i64 k) false).run Try.prog w = .ok (ptV o) w) :
    Calls Try.prog 18 #[.pointer (some ⟨g, 0, none⟩), .int .i64 k] w fun e w' => e = .returned (ptV o) ∧ w = w' := by
  obtain ⟨c0, c1, c2⟩ := hg.cell3
  clear c0 c2
  generalize ptV o = v at *
  go_enter Try.func18, Try.ntmps18
  go_wp2_with fail
  go_returns
  exact ⟨rfl, rfl⟩
theorem ahas_nil (k : Int) (w : World) : Calls Try.prog 13 #[.pointer none, .int .i64 k] w fun e w' => e = .returned (.bool false) ∧ w = w' := by
  go_enter Try.func13, Try.ntmps13
  go_wp2_with (go_at_call 18; (with_reducible refine (afind_nil _ _).mono ?_); rintro e w1 ⟨rfl, rfl⟩)
  go_returns
  exact ⟨rfl, rfl⟩
theorem ahas_any {w : World} {g : Nat} {sl mv : Value} {now : Int} (hg : Bk w g 29 #[sl, mv, .int .i64 now]) (k : Int) (o : Option Nat) (hlk : (Instr.lookup 27 mv (.int .i64 k) false).run Try.prog w = .ok (ptV o) w) :
    Calls Try.prog 13 #[.pointer (some ⟨g, 0, none⟩), .int .i64 k] w fun e w' => e = .returned (.bool o.isSome) ∧ w = w' := by
  have hf := afind_any hg k o hlk
  clear hlk
  cases o with
  | none =>
    have hf' : Calls Try.prog 18 #[.pointer (some ⟨g, 0, none⟩), .int .i64 k] w fun e w' => e = .returned (.pointer none) ∧ w = w' := hf
    go_enter Try.func13, Try.ntmps13
    go_wp2_with (go_at_call 18; (with_reducible refine hf'.mono ?_); rintro e w1 ⟨rfl, rfl⟩)
    go_returns
    exact ⟨rfl, rfl⟩
  | some b =>
    have hf' : Calls Try.prog 18 #[.pointer (some ⟨g, 0, none⟩), .int .i64 k] w fun e w' => e = .returned (.pointer (some ⟨b, 0, none⟩)) ∧ w = w' := hf
    go_enter Try.func13, Try.ntmps13
    go_wp2_with (go_at_call 18; (with_reducible refine hf'.mono ?_); rintro e w1 ⟨rfl, rfl⟩)
    go_returns
    exact ⟨rfl, rfl⟩
end Go.Proofs.Ytiefhmbffmphdaa
