/- foot.Columns, walked. -/
import Derived.Test.YtjdboclibinjoaaFt10
import Derived.Test.YtjdboclibinjoaaIx3
set_option linter.unusedVariables false
namespace Go.Proofs.Ytjdboclibinjoaa
open Go.RowKit
def offB (i : Int) : Bool := decide (i < -4611686018427387904) || decide (4611686018427387904 < i)
theorem off_any (i : Int) (w : World) : Calls Try.prog 42 #[.int .i64 i] w fun e w' => e = .returned (.bool (offB i)) ∧ w' = w := by
  unfold offB
  go_enter Try.func42, Try.ntmps42
  by_cases h1 : i < -4611686018427387904
  · have hd : decide (i < -4611686018427387904) = true := by simpa using h1
    rw [hd, Bool.true_or]
    go_wp2
    go_returns
    exact ⟨rfl, rfl⟩
  · have hd : decide (i < -4611686018427387904) = false := by simpa using h1
    rw [hd, Bool.false_or]
    have h2 : -4611686018427387904 ≤ i := by omega
    go_wp2
    go_returns
    exact ⟨rfl, rfl⟩
section
variable (lo hi n : Int) (w : World) (hn : 1 ≤ n) (hn2 : n ≤ 2147483648) (hlh : lo ≤ hi) (h1 : -4611686018427387904 ≤ lo ∧ lo ≤ 4611686018427387904) (h2 : -4611686018427387904 ≤ hi ∧ hi ≤ 4611686018427387904)
include hn hn2 hlh h1 h2
set_option maxHeartbeats 1000000 in
theorem again_any :
    Calls Try.prog 73 #[askV lo hi n] w fun e w' => ∃ v, e = .returned v ∧ w'.ownsRow w.heap.size 35 2 v (roundF layA 1 lo hi n).length (encR (roundF layA 1 lo hi n)) ∧ Below w.heap.size w w' := by
  have hK := Bk.new w 92 #[.int .i64 lo, .int .i64 hi, .int .i64 n]
  have hrd := fun W => round_again lo hi n W hn hn2 hlh h1 h2
  generalize roundF layA 1 lo hi n = L at *
  go_enter Try.func73, Try.ntmps73
  go_wp2_with (go_at_call 104; (with_reducible refine (hrd _).mono ?_); rintro e w1 ⟨v, rfl, hown, hb1⟩)
  go_returns
  exact ⟨_, rfl, own_base hown (by simp), ((Below.refl _ w).alloc (Nat.le_refl _) _).trans (hb1.mono (by simp))⟩
set_option maxHeartbeats 1000000 in
theorem back_any :
    Calls Try.prog 74 #[askV lo hi n] w fun e w' => ∃ v, e = .returned v ∧ w'.ownsRow w.heap.size 35 2 v (roundF layB 2 lo hi n).length (encR (roundF layB 2 lo hi n)) ∧ Below w.heap.size w w' := by
  have hK := Bk.new w 92 #[.int .i64 lo, .int .i64 hi, .int .i64 n]
  have hrd := round_back lo hi n w.heap.size (w.alloc (.cells #[.int .i64 lo, .int .i64 hi, .int .i64 n] 92)) hK.lt hK hn hn2 hlh h1 h2
  generalize roundF layB 2 lo hi n = L at *
  go_enter Try.func74, Try.ntmps74
  go_wp2_with (go_at_call 104; (with_reducible refine (hrd).mono ?_); rintro e w1 ⟨v, rfl, hown, hb1⟩)
  go_returns
  exact ⟨_, rfl, own_base hown (by simp), ((Below.refl _ w).alloc (Nat.le_refl _) _).trans (hb1.mono (by simp))⟩
end
theorem ask_fn_size : (Try.prog.info? 88).map (·.size) = some 1 := by kernel_rfl
@[go_sem] theorem idx_f0 (a b c d : Value) (w : World) : (Instr.index 89 (.agg #[a, b, c, d]) (.int .i64 0)).run Try.prog w = .ok a w :=
  run_index1 (P := Try.prog) (j := 0) Try.underlying89 Try.underlying88 rfl ask_fn_size _ _ (by decide) _ rfl w
@[go_sem] theorem idx_f1 (a b c d : Value) (w : World) : (Instr.index 89 (.agg #[a, b, c, d]) (.int .i64 1)).run Try.prog w = .ok b w :=
  run_index1 (P := Try.prog) (j := 1) Try.underlying89 Try.underlying88 rfl ask_fn_size _ _ (by decide) _ rfl w
@[go_sem] theorem idx_f2 (a b c d : Value) (w : World) : (Instr.index 89 (.agg #[a, b, c, d]) (.int .i64 2)).run Try.prog w = .ok c w :=
  run_index1 (P := Try.prog) (j := 2) Try.underlying89 Try.underlying88 rfl ask_fn_size _ _ (by decide) _ rfl w
@[go_sem] theorem idx_f3 (a b c d : Value) (w : World) : (Instr.index 89 (.agg #[a, b, c, d]) (.int .i64 3)).run Try.prog w = .ok d w :=
  run_index1 (P := Try.prog) (j := 3) Try.underlying89 Try.underlying88 rfl ask_fn_size _ _ (by decide) _ rfl w
abbrev fwaysV : Value := .agg #[.func (.func 71) #[] #[], .func (.func 72) #[] #[], .func (.func 73) #[] #[], .func (.func 74) #[] #[]]
theorem fways_size : (Try.prog.info? 89).map (·.size) = some 4 := by kernel_rfl
set_option maxHeartbeats 1000000 in
theorem fways_any (w : World) :
    Calls Try.prog 43 #[] w fun e w' => e = .returned fwaysV ∧ Below w.heap.size w w' := by
  go_enter Try.func43, Try.ntmps43
  have hK := Bk.new w 89 #[.nilFunc, .nilFunc, .nilFunc, .nilFunc]
  go_wp2_with (refine stB rfl _ _ _ rfl hK #[.func (.func 71) #[] #[], .func (.func 72) #[] #[], .func (.func 73) #[] #[], .func (.func 74) #[] #[]] rfl rfl fways_size rfl (by simp [Value.oneCell']) ?_; intro w6 hK6 hg6 _)
  refine bodyPost_ret (res_cell rfl hK6 rfl Try.underlying89 rfl fways_size) rfl ?_
  exact ⟨rfl, below_of_gb (by go_grown) hg6 (Nat.le_refl _) (by simp)⟩
end Go.Proofs.Ytjdboclibinjoaa
