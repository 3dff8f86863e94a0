/- container/heap over a row of things: Fix. -/
import Derived.Test.YtiefhmbffmphdaaAG3
set_option linter.unusedVariables false
namespace Go.Proofs.Ytiefhmbffmphdaa
open Go.RowKit
theorem rlen_any (A : Option Addr) (n c : Nat) (w : World) : Calls Try.prog 63 #[.slice A n c] w fun e w' => e = .returned (.int .i64 (n : Nat)) ∧ w = w' := by
  go_enter Try.func63, Try.ntmps63
  go_wp2_with fail
  go_returns
  exact ⟨rfl, rfl⟩
set_option maxRecDepth 100000 in
set_option maxHeartbeats 4000000 in
theorem fix_any {F : Nat → Prop} {w : World} {g : Nat} {A : Option Addr} {n c : Nat} {mv : Value} {now : Int} {a : Nat → Nat} {K W : Nat → Int} (h : Hw F w g A n c mv now a K W) (i : Nat) (hD : Dn W false a n i) (hn : n ≤ 1000000) :
    Calls Try.prog 19 #[ifV g, .int .i64 (i : Nat)] w fun e w' => e = .returned (.tuple #[]) ∧ ∃ b, Hw F w' g A n c mv now b K W ∧ Hp W b n ∧ Pm a b n ∧ Only F w w' := by
  have hme := me_len g w _ h.lv
  have hDo := down_any h i n hD (Nat.le_refl _) hn
  go_enter Try.func19, Try.ntmps19
  go_upto_region 1 with (first
    | (go_at_call 63; (with_reducible refine (rlen_any _ _ _ _).mono ?_); rintro e w1 ⟨rfl, rfl⟩)
    | (go_at_call 26; (with_reducible refine hDo.mono ?_); rintro e w2 ⟨mv', b, rfl, h2, hP, _, hT, hF, hO⟩; cases mv'))
  · obtain ⟨hU, rfl⟩ := hF (by trivial)
    have hUp := up_any h2 i hU hn
    go_wp2_with (go_at_call 27; (with_reducible refine hUp.mono ?_); rintro e w3 ⟨rfl, b3, h3, hp3, hP3, hO3⟩)
    go_end0
    exact ⟨rfl, b3, h3, hp3, hP3, hO.trans hO3 (fun i h => .inl h)⟩
  · go_wp2_with fail
    go_end0
    exact ⟨rfl, b, h2, hT (by trivial), hP, hO⟩
end Go.Proofs.Ytiefhmbffmphdaa
