/- ages: Len, Oldest. -/
import Derived.Test.YtiefhmbffmphdaaAG8
set_option linter.unusedVariables false
namespace Go.Proofs.Ytiefhmbffmphdaa
open Go.RowKit
theorem alen_nil (w : World) : Calls Try.prog 14 #[.pointer none] w fun e w' => e = .returned (.int .i64 0) ∧ w = w' := by
  go_enter Try.func14, Try.ntmps14
  go_wp2_with fail
  go_returns
  exact ⟨rfl, rfl⟩
theorem alen_any {w : World} {g : Nat} {A : Option Addr} {n c : Nat} {mv : Value} {now : Int} (hg : Bk w g 29 #[.slice A n c, mv, .int .i64 now]) : Calls Try.prog 14 #[.pointer (some ⟨g, 0, none⟩)] w fun e w' => e = .returned (.int .i64 (n : Nat)) ∧ w = w' := by
  obtain ⟨c0, c1, c2⟩ := hg.cell3
  go_enter Try.func14, Try.ntmps14
  go_wp2_with fail
  go_returns
  exact ⟨rfl, rfl⟩
theorem aold_nil (w : World) : Calls Try.prog 12 #[.pointer none] w fun e w' => e = .returned (.tuple #[.int .i64 0, .bool false]) ∧ w = w' := by
  go_enter Try.func12, Try.ntmps12
  go_wp2_with (go_at_call 14; (with_reducible refine (alen_nil _).mono ?_); rintro e w1 ⟨rfl, rfl⟩)
  go_returns
  exact ⟨rfl, rfl⟩
theorem aold_none {w : World} {g : Nat} {A : Option Addr} {c : Nat} {mv : Value} {now : Int} (hg : Bk w g 29 #[.slice A 0 c, mv, .int .i64 now]) : Calls Try.prog 12 #[.pointer (some ⟨g, 0, none⟩)] w fun e w' => e = .returned (.tuple #[.int .i64 0, .bool false]) ∧ w = w' := by
  have hl := alen_any hg
  go_enter Try.func12, Try.ntmps12
  go_wp2_with (go_at_call 14; (with_reducible refine hl.mono ?_); rintro e w1 ⟨rfl, rfl⟩)
  go_returns
  exact ⟨rfl, rfl⟩
theorem aold_some {F : Nat → Prop} {w : World} {g : Nat} {A : Option Addr} {n c : Nat} {mv : Value} {now : Int} {a : Nat → Nat} {K W : Nat → Int} (h : Hw F w g A n c mv now a K W) (hn : 0 < n) : Calls Try.prog 12 #[.pointer (some ⟨g, 0, none⟩)] w fun e w' => e = .returned (.tuple #[.int .i64 (K (a 0)), .bool true]) ∧ w = w' := by
  have hl := alen_any h.hg
  obtain ⟨r, cur, rfl, _, _, hnc, _, ci⟩ := h.cell 0 hn
  obtain ⟨c0, c1, c2⟩ := h.hg.cell3
  obtain ⟨d0, d1, d2⟩ := (h.th 0 hn).cell3
  have hb : ((n : Int) == 0) = false := by simp; omega
  clear h
  generalize a 0 = b at *
  generalize K b = kb at *
  have hn2 : (0 : Int) < (n : Int) := by omega
  go_enter Try.func12, Try.ntmps12
  go_wp2_with (go_at_call 14; (with_reducible refine hl.mono ?_); rintro e w1 ⟨rfl, rfl⟩)
  go_returns
  exact ⟨rfl, rfl⟩
end Go.Proofs.Ytiefhmbffmphdaa
