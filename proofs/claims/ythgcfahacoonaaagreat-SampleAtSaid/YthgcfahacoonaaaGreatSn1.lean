/- Kernels: their table, names and reaches. -/
import Derived.Test.YthgcfahacoonaaaGreatRowG
set_option linter.unusedVariables false
namespace Go.Proofs.YthgcfahacoonaaaGreat
open Go.RowKit
def sNear : ByteArray := ⟨#[110, 101, 97, 114]⟩
def sLinear : ByteArray := ⟨#[108, 105, 110, 101, 97, 114]⟩
def sCubic : ByteArray := ⟨#[99, 117, 98, 105, 99]⟩
def sSuper : ByteArray := ⟨#[115, 117, 112, 101, 114]⟩
abbrev kerA : Array Value := #[.string sNear, .func (.func 54) #[] #[], .func (.func 55) #[] #[],
  .string sLinear, .func (.func 56) #[] #[], .func (.func 57) #[] #[],
  .string sCubic, .func (.func 58) #[] #[], .func (.func 59) #[] #[],
  .string sSuper, .func (.func 56) #[] #[], .func (.func 57) #[] #[]]
theorem ker_size : (Tryz.prog.info? 71).map (·.size) = some 12 := by kernel_rfl
theorem kernels_any (w : World) : Calls Tryz.prog 24 #[] w fun e w' => e = .returned (.agg kerA) ∧ Below w.heap.size w w' := by
  have hbz := (Below.refl w.heap.size w).alloc (Nat.le_refl _) (.cells #[.string ⟨#[]⟩, .nilFunc, .nilFunc, .string ⟨#[]⟩, .nilFunc, .nilFunc, .string ⟨#[]⟩, .nilFunc, .nilFunc, .string ⟨#[]⟩, .nilFunc, .nilFunc] 71)
  have hK := Bk.new w 71 #[.string ⟨#[]⟩, .nilFunc, .nilFunc, .string ⟨#[]⟩, .nilFunc, .nilFunc, .string ⟨#[]⟩, .nilFunc, .nilFunc, .string ⟨#[]⟩, .nilFunc, .nilFunc]
  go_enter Tryz.func24, Tryz.ntmps24
  go_wp2_with (refine stB (ty := 71) (cells := kerA) rfl _ _ rfl hK rfl rfl ker_size rfl (by simp [Value.oneCell']) ?_; intro w' hK' hg' _)
  refine bodyPost_ret (res_cell rfl hK' rfl Tryz.underlying71 rfl ker_size) rfl ?_
  exact ⟨rfl, below_of_gb hbz hg' (Nat.le_refl _) hbz.size⟩
theorem is_any (k : Int) (w : World) : Calls Tryz.prog 52 #[.int .i64 k] w fun e w' => e = .returned (.bool (decide (0 ≤ k ∧ k ≤ 3))) ∧ w = w' := by
  by_cases h : 0 ≤ k
  all_goals
    go_enter Tryz.func52, Tryz.ntmps52
    go_wp2
    go_returns
    exact ⟨ret_bool (by simp <;> omega), rfl⟩
theorem shr16' (x : Int) (s : Nat) (hs : s = 16) : x >>> s = x / 65536 := by
  subst hs; rw [Int.shiftRight_eq_div_pow]; rfl
def inF (u : Int) : Bool := decide (-70368744177664 ≤ u ∧ u ≤ 70368744177664)
theorem inF_eq (u : Int) : inF u = (decide (-70368744177664 ≤ u) && decide (u ≤ 70368744177664)) := by unfold inF; simp
theorem inF_iff {u : Int} : inF u = true ↔ (-70368744177664 ≤ u ∧ u ≤ 70368744177664) := by unfold inF; exact decide_eq_true_iff
def reachR (a b h lo hi : Int) : Int × Int := if lo ≤ hi ∧ inF lo = true ∧ inF hi = true then ((lo + h) / 65536 + a, (hi + h) / 65536 + b) else (0, 0)
theorem near_in (u : Int) (w : World) : Calls Tryz.prog 100 #[.int .i64 u] w fun e w' => e = .returned (.bool (inF u)) ∧ w = w' := by
  by_cases h1 : -70368744177664 ≤ u
  all_goals
    go_enter Tryz.func100, Tryz.ntmps100
    go_wp2
    go_ret
    exact ⟨ret_bool (by rw [inF_eq]; simp <;> omega), rfl⟩
theorem linear_in (u : Int) (w : World) : Calls Tryz.prog 102 #[.int .i64 u] w fun e w' => e = .returned (.bool (inF u)) ∧ w = w' := by
  by_cases h1 : -70368744177664 ≤ u
  all_goals
    go_enter Tryz.func102, Tryz.ntmps102
    go_wp2
    go_ret
    exact ⟨ret_bool (by rw [inF_eq]; simp <;> omega), rfl⟩
theorem cubic_in (u : Int) (w : World) : Calls Tryz.prog 106 #[.int .i64 u] w fun e w' => e = .returned (.bool (inF u)) ∧ w = w' := by
  by_cases h1 : -70368744177664 ≤ u
  all_goals
    go_enter Tryz.func106, Tryz.ntmps106
    go_wp2
    go_ret
    exact ⟨ret_bool (by rw [inF_eq]; simp <;> omega), rfl⟩
theorem near_index (u : Int) (w : World) (h1 : -70368744177664 ≤ u) (h2 : u ≤ 70368744177664) : Calls Tryz.prog 101 #[.int .i64 u] w fun e w' => e = .returned (.int .i64 ((u + 32768) / 65536)) ∧ w = w' := by
  go_enter Tryz.func101, Tryz.ntmps101
  go_wp2
  go_ret
  exact ⟨ret_int (by first | rfl | (simp [shr16'])), rfl⟩
theorem split_any (u : Int) (w : World) : Calls Tryz.prog 105 #[.int .i64 u] w fun e w' => (∃ r, e = .returned (.tuple #[.int .i64 (u / 65536), .int .i64 r])) ∧ w = w' := by
  go_enter Tryz.func105, Tryz.ntmps105
  go_wp2
  go_returns
  exact ⟨⟨_, by first | rfl | (rw [shr16' _ _ rfl])⟩, rfl⟩
theorem ker_ix0 (w : World) : (Instr.index 71 (.agg kerA) (.int .i64 0)).run Tryz.prog w = .ok (.agg #[.string sNear, .func (.func 54) #[] #[], .func (.func 55) #[] #[]]) w := by kernel_rfl
theorem ker_ix1 (w : World) : (Instr.index 71 (.agg kerA) (.int .i64 1)).run Tryz.prog w = .ok (.agg #[.string sLinear, .func (.func 56) #[] #[], .func (.func 57) #[] #[]]) w := by kernel_rfl
theorem ker_ix2 (w : World) : (Instr.index 71 (.agg kerA) (.int .i64 2)).run Tryz.prog w = .ok (.agg #[.string sCubic, .func (.func 58) #[] #[], .func (.func 59) #[] #[]]) w := by kernel_rfl
theorem ker_ix3 (w : World) : (Instr.index 71 (.agg kerA) (.int .i64 3)).run Tryz.prog w = .ok (.agg #[.string sSuper, .func (.func 56) #[] #[], .func (.func 57) #[] #[]]) w := by kernel_rfl
theorem ker_f0 (a b c : Value) (w : World) : (Instr.field 70 (.agg #[a, b, c]) 0).run Tryz.prog w = .ok a w := by kernel_rfl
theorem ker_f2 (a b c : Value) (w : World) : (Instr.field 70 (.agg #[a, b, c]) 2).run Tryz.prog w = .ok c w := by kernel_rfl
def nameR (k : Int) : ByteArray := if k = 0 then sNear else if k = 1 then sLinear else if k = 2 then sCubic else if k = 3 then sSuper else ⟨#[]⟩
set_option maxHeartbeats 1000000 in
theorem name_any (k : Int) (w : World) : Calls Tryz.prog 29 #[.int .i64 k] w fun e w' => e = .returned (.string (nameR k)) ∧ Below w.heap.size w w' := by
  by_cases h : 0 ≤ k ∧ k ≤ 3
  · have hd : decide (0 ≤ k ∧ k ≤ 3) = true := decide_eq_true h
    have h4 : k = 0 ∨ k = 1 ∨ k = 2 ∨ k = 3 := by omega
    clear h
    rcases h4 with rfl | rfl | rfl | rfl
    · have hi := ker_ix0
      have hf := ker_f0
      go_enter Tryz.func29, Tryz.ntmps29
      go_wp2_with (first
        | (go_at_call 52; (with_reducible refine (is_any _ _).mono ?_); rintro e w' ⟨rfl, rfl⟩; rw [hd])
        | (go_at_call 24; (with_reducible refine (kernels_any _).mono ?_); rintro e w1 ⟨rfl, hb1⟩))
      go_returns
      exact ⟨rfl, hb1⟩
    · have hi := ker_ix1
      have hf := ker_f0
      go_enter Tryz.func29, Tryz.ntmps29
      go_wp2_with (first
        | (go_at_call 52; (with_reducible refine (is_any _ _).mono ?_); rintro e w' ⟨rfl, rfl⟩; rw [hd])
        | (go_at_call 24; (with_reducible refine (kernels_any _).mono ?_); rintro e w1 ⟨rfl, hb1⟩))
      go_returns
      exact ⟨rfl, hb1⟩
    · have hi := ker_ix2
      have hf := ker_f0
      go_enter Tryz.func29, Tryz.ntmps29
      go_wp2_with (first
        | (go_at_call 52; (with_reducible refine (is_any _ _).mono ?_); rintro e w' ⟨rfl, rfl⟩; rw [hd])
        | (go_at_call 24; (with_reducible refine (kernels_any _).mono ?_); rintro e w1 ⟨rfl, hb1⟩))
      go_returns
      exact ⟨rfl, hb1⟩
    · have hi := ker_ix3
      have hf := ker_f0
      go_enter Tryz.func29, Tryz.ntmps29
      go_wp2_with (first
        | (go_at_call 52; (with_reducible refine (is_any _ _).mono ?_); rintro e w' ⟨rfl, rfl⟩; rw [hd])
        | (go_at_call 24; (with_reducible refine (kernels_any _).mono ?_); rintro e w1 ⟨rfl, hb1⟩))
      go_returns
      exact ⟨rfl, hb1⟩
  · have hd : decide (0 ≤ k ∧ k ≤ 3) = false := decide_eq_false h
    have HN : Hid (nameR k = ⟨#[]⟩) := by show _ = _; unfold nameR; rw [if_neg (by omega), if_neg (by omega), if_neg (by omega), if_neg (by omega)]
    clear h
    go_enter Tryz.func29, Tryz.ntmps29
    go_wp2_with (go_at_call 52; (with_reducible refine (is_any _ _).mono ?_); rintro e w' ⟨rfl, rfl⟩; rw [hd])
    go_returns
    exact ⟨by rw [HN.out]; rfl, Below.refl _ _⟩
end Go.Proofs.YthgcfahacoonaaaGreat
