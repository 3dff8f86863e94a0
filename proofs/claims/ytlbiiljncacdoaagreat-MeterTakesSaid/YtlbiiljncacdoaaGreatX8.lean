/- xform: kinds and their names. -/
import Derived.Test.YtlbiiljncacdoaaGreatX7
import Derived.Deep.RegionHeld3
set_option linter.unusedVariables false
namespace Go.Proofs.YtlbiiljncacdoaaGreat
open Go.RowKit
def sAffine : ByteArray := ⟨#[97, 102, 102, 105, 110, 101]⟩
def sHomog : ByteArray := ⟨#[104, 111, 109, 111, 103]⟩
def sLens : ByteArray := ⟨#[108, 101, 110, 115]⟩
def sMesh : ByteArray := ⟨#[109, 101, 115, 104]⟩
def sShear : ByteArray := ⟨#[115, 104, 101, 97, 114]⟩
def sTurn : ByteArray := ⟨#[116, 117, 114, 110]⟩
abbrev kiA : Array Value := #[.string ⟨#[]⟩, .int .i64 0, .nilFunc,
  .string sAffine, .int .i64 6, .func (.func 127) #[] #[],
  .string sHomog, .int .i64 9, .func (.func 128) #[] #[],
  .string sLens, .int .i64 7, .func (.func 129) #[] #[],
  .string sMesh, .int .i64 0, .func (.func 130) #[] #[],
  .string sShear, .int .i64 4, .func (.func 131) #[] #[],
  .string sTurn, .int .i64 3, .func (.func 132) #[] #[]]
set_option maxRecDepth 100000 in
theorem kinds_any (w : World) : Calls Tryz.prog 71 #[] w fun e w' => e = .returned (.slice (some ⟨w.heap.size, 0, none⟩) 7 7) ∧ w.alloc (.cells kiA 127) = w' := by
  go_enter Tryz.func71, Tryz.ntmps71
  go_wp2_with fail
  go_returns
  exact ⟨rfl, rfl⟩
theorem xis_any (k : Int) (w : World) : Calls Tryz.prog 73 #[.int .i64 k] w fun e w' => e = .returned (.bool (decide (1 ≤ k ∧ k ≤ 6))) ∧ w = w' := by
  by_cases h : 1 ≤ k
  all_goals
    go_enter Tryz.func73, Tryz.ntmps73
    go_wp2
    go_returns
    exact ⟨ret_bool (by simp <;> omega), rfl⟩
def xnm (k : Int) : ByteArray := if k = 1 then sAffine else if k = 2 then sHomog else if k = 3 then sLens else if k = 4 then sMesh else if k = 5 then sShear else if k = 6 then sTurn else ⟨#[]⟩
def xct (k : Int) : Int := if k = 1 then 6 else if k = 2 then 9 else if k = 3 then 7 else if k = 4 then 0 else if k = 5 then 4 else if k = 6 then 3 else 0
theorem six {k : Int} (h : 1 ≤ k ∧ k ≤ 6) : k = 1 ∨ k = 2 ∨ k = 3 ∨ k = 4 ∨ k = 5 ∨ k = 6 := by omega
set_option maxRecDepth 100000 in
set_option maxHeartbeats 4000000 in
theorem xname_any (k : Int) (w : World) : Calls Tryz.prog 17 #[.int .i64 k] w fun e w' => e = .returned (.string (xnm k)) ∧ Below w.heap.size w w' := by
  have hb := (Below.refl w.heap.size w).alloc (Nat.le_refl _) (.cells kiA 127)
  by_cases h : 1 ≤ k ∧ k ≤ 6
  · have hd : decide (1 ≤ k ∧ k ≤ 6) = true := decide_eq_true h
    rcases six h with rfl | rfl | rfl | rfl | rfl | rfl
    all_goals
      clear h
      go_enter Tryz.func17, Tryz.ntmps17
      go_wp2_with (first
        | (go_at_call 73; (with_reducible refine (xis_any _ _).mono ?_); rintro e w' ⟨rfl, rfl⟩; rw [hd])
        | (go_at_call 71; (with_reducible refine (kinds_any _).mono ?_); rintro e w1 ⟨rfl, rfl⟩))
      go_returns
      exact ⟨rfl, hb⟩
  · have hd : decide (1 ≤ k ∧ k ≤ 6) = false := decide_eq_false h
    have HN : Hid (xnm k = ⟨#[]⟩) := by show _ = _; unfold xnm; rw [if_neg (by omega), if_neg (by omega), if_neg (by omega), if_neg (by omega), if_neg (by omega), if_neg (by omega)]
    have hb0 := Below.refl w.heap.size w
    clear h
    go_enter Tryz.func17, Tryz.ntmps17
    go_wp2_with (go_at_call 73; (with_reducible refine (xis_any _ _).mono ?_); rintro e w' ⟨rfl, rfl⟩; rw [hd])
    go_returns
    exact ⟨by rw [HN.out]; rfl, hb0⟩
set_option maxRecDepth 100000 in
set_option maxHeartbeats 4000000 in
theorem xcount_any (k : Int) (w : World) : Calls Tryz.prog 18 #[.int .i64 k] w fun e w' => e = .returned (.int .i64 (xct k)) ∧ Below w.heap.size w w' := by
  have hb := (Below.refl w.heap.size w).alloc (Nat.le_refl _) (.cells kiA 127)
  by_cases h : 1 ≤ k ∧ k ≤ 6
  · have hd : decide (1 ≤ k ∧ k ≤ 6) = true := decide_eq_true h
    rcases six h with rfl | rfl | rfl | rfl | rfl | rfl
    all_goals
      clear h
      go_enter Tryz.func18, Tryz.ntmps18
      go_wp2_with (first
        | (go_at_call 73; (with_reducible refine (xis_any _ _).mono ?_); rintro e w' ⟨rfl, rfl⟩; rw [hd])
        | (go_at_call 71; (with_reducible refine (kinds_any _).mono ?_); rintro e w1 ⟨rfl, rfl⟩))
      go_returns
      exact ⟨rfl, hb⟩
  · have hd : decide (1 ≤ k ∧ k ≤ 6) = false := decide_eq_false h
    have HN : Hid (xct k = 0) := by show _ = _; unfold xct; rw [if_neg (by omega), if_neg (by omega), if_neg (by omega), if_neg (by omega), if_neg (by omega), if_neg (by omega)]
    have hb0 := Below.refl w.heap.size w
    clear h
    go_enter Tryz.func18, Tryz.ntmps18
    go_wp2_with (go_at_call 73; (with_reducible refine (xis_any _ _).mono ?_); rintro e w' ⟨rfl, rfl⟩; rw [hd])
    go_returns
    exact ⟨by rw [HN.out]; rfl, hb0⟩
theorem not_six (k : Int) (h : ¬ (1 ≤ k ∧ k ≤ 6)) : k < 1 ∨ (1 ≤ k ∧ 6 < k) := by omega
set_option maxRecDepth 100000 in
set_option maxHeartbeats 4000000 in
theorem rxname_any (k : Int) (w : World) : Calls Tryz.prog 16 #[.int .i64 k] w fun e w' => e = .returned (.string (xnm k)) ∧ Below w.heap.size w w' := by
  have hb := (Below.refl w.heap.size w).alloc (Nat.le_refl _) (.cells #[.string sAffine, .string sHomog, .string sLens, .string sMesh, .string sShear, .string sTurn] 9)
  have hb0 := Below.refl w.heap.size w
  by_cases h : 1 ≤ k ∧ k ≤ 6
  · rcases six h with rfl | rfl | rfl | rfl | rfl | rfl
    all_goals
      clear h
      go_enter Tryz.func16, Tryz.ntmps16
      go_wp2_with fail
      go_returns
      exact ⟨rfl, hb⟩
  · have HN : Hid (xnm k = ⟨#[]⟩) := by show _ = _; unfold xnm; rw [if_neg (by omega), if_neg (by omega), if_neg (by omega), if_neg (by omega), if_neg (by omega), if_neg (by omega)]
    rcases not_six k h with h1 | ⟨h1, h2⟩
    all_goals
      clear h
      go_enter Tryz.func16, Tryz.ntmps16
      go_wp2_with fail
      go_returns
      exact ⟨by rw [HN.out]; rfl, hb0⟩
set_option maxRecDepth 100000 in
set_option maxHeartbeats 4000000 in
theorem rxcount_any (k : Int) (w : World) : Calls Tryz.prog 19 #[.int .i64 k] w fun e w' => e = .returned (.int .i64 (xct k)) ∧ Below w.heap.size w w' := by
  have hb := (Below.refl w.heap.size w).alloc (Nat.le_refl _) (.cells #[.int .i64 6, .int .i64 9, .int .i64 7, .int .i64 0, .int .i64 4, .int .i64 3] 3)
  have hb0 := Below.refl w.heap.size w
  by_cases h : 1 ≤ k ∧ k ≤ 6
  · rcases six h with rfl | rfl | rfl | rfl | rfl | rfl
    all_goals
      clear h
      go_enter Tryz.func19, Tryz.ntmps19
      go_wp2_with fail
      go_returns
      exact ⟨rfl, hb⟩
  · have HN : Hid (xct k = 0) := by show _ = _; unfold xct; rw [if_neg (by omega), if_neg (by omega), if_neg (by omega), if_neg (by omega), if_neg (by omega), if_neg (by omega)]
    rcases not_six k h with h1 | ⟨h1, h2⟩
    all_goals
      clear h
      go_enter Tryz.func19, Tryz.ntmps19
      go_wp2_with fail
      go_returns
      exact ⟨by rw [HN.out]; rfl, hb0⟩
theorem neq_func (F : Fn) (bs fr : Array Value) (w : World) : (binOp .neq 125 (.func F bs fr) .nilFunc).run Tryz.prog w = .ok (.bool true) w := by
  first | kernel_rfl | rfl
theorem neq_func0 (w : World) : (binOp .neq 125 .nilFunc .nilFunc).run Tryz.prog w = .ok (.bool false) w := by
  first | kernel_rfl | rfl
theorem eql_asked (F : Fn) (bs fr : Array Value) (w : World) : (binOp .eql 132 (.func F bs fr) .nilFunc).run Tryz.prog w = .ok (.bool false) w := by
  first | kernel_rfl | rfl
theorem eql_asked0 (w : World) : (binOp .eql 132 .nilFunc .nilFunc).run Tryz.prog w = .ok (.bool true) w := by
  first | kernel_rfl | rfl
end Go.Proofs.YtlbiiljncacdoaaGreat
