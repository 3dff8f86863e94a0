/- Kernels: their table, names and reaches. -/
import Derived.Test.YtnnbpmlllidkiaaRowG
set_option linter.unusedVariables false
namespace Go.Proofs.Ytnnbpmlllidkiaa
open Go.RowKit
def sNear : ByteArray := ⟨#[110, 101, 97, 114]⟩
def sLinear : ByteArray := ⟨#[108, 105, 110, 101, 97, 114]⟩
def sCubic : ByteArray := ⟨#[99, 117, 98, 105, 99]⟩
def sSuper : ByteArray := ⟨#[115, 117, 112, 101, 114]⟩
abbrev kerA : Array Value := #[.string sNear, .func (.func 23) #[] #[], .func (.func 24) #[] #[],
  .string sLinear, .func (.func 25) #[] #[], .func (.func 26) #[] #[],
  .string sCubic, .func (.func 27) #[] #[], .func (.func 28) #[] #[],
  .string sSuper, .func (.func 25) #[] #[], .func (.func 26) #[] #[]]
theorem ker_size : (Try.prog.info? 59).map (·.size) = some 12 := by kernel_rfl
theorem kernels_any (w : World) : Calls Try.prog 17 #[] w fun e w' => e = .returned (.agg kerA) ∧ Below w.heap.size w w' := by
  have hbz := (Below.refl w.heap.size w).alloc (Nat.le_refl _) (.cells #[.string ⟨#[]⟩, .nilFunc, .nilFunc, .string ⟨#[]⟩, .nilFunc, .nilFunc, .string ⟨#[]⟩, .nilFunc, .nilFunc, .string ⟨#[]⟩, .nilFunc, .nilFunc] 59)
  have hK := Bk.new w 59 #[.string ⟨#[]⟩, .nilFunc, .nilFunc, .string ⟨#[]⟩, .nilFunc, .nilFunc, .string ⟨#[]⟩, .nilFunc, .nilFunc, .string ⟨#[]⟩, .nilFunc, .nilFunc]
  go_enter Try.func17, Try.ntmps17
  go_wp2_with (refine stB (ty := 59) (cells := kerA) rfl _ _ rfl hK rfl rfl ker_size rfl (by simp [Value.oneCell']) ?_; intro w' hK' hg' _)
  refine bodyPost_ret (res_cell rfl hK' rfl Try.underlying59 rfl ker_size) rfl ?_
  exact ⟨rfl, below_of_gb hbz hg' (Nat.le_refl _) hbz.size⟩
theorem is_any (k : Int) (w : World) : Calls Try.prog 18 #[.int .i64 k] w fun e w' => e = .returned (.bool (decide (0 ≤ k ∧ k ≤ 3))) ∧ w = w' := by
  by_cases h : 0 ≤ k
  all_goals
    go_enter Try.func18, Try.ntmps18
    go_wp2
    go_returns
    exact ⟨ret_bool (by simp <;> omega), rfl⟩
theorem shr16' (x : Int) (s : Nat) (hs : s = 16) : x >>> s = x / 65536 := by
  subst hs; rw [Int.shiftRight_eq_div_pow]; rfl
def inF (u : Int) : Bool := decide (-70368744177664 ≤ u ∧ u ≤ 70368744177664)
theorem inF_eq (u : Int) : inF u = (decide (-70368744177664 ≤ u) && decide (u ≤ 70368744177664)) := by unfold inF; simp
theorem inF_iff {u : Int} : inF u = true ↔ (-70368744177664 ≤ u ∧ u ≤ 70368744177664) := by unfold inF; exact decide_eq_true_iff
def reachR (a b h lo hi : Int) : Int × Int := if lo ≤ hi ∧ inF lo = true ∧ inF hi = true then ((lo + h) / 65536 + a, (hi + h) / 65536 + b) else (0, 0)
theorem ker_ix0 (w : World) : (Instr.index 59 (.agg kerA) (.int .i64 0)).run Try.prog w = .ok (.agg #[.string sNear, .func (.func 23) #[] #[], .func (.func 24) #[] #[]]) w := by kernel_rfl
theorem ker_ix1 (w : World) : (Instr.index 59 (.agg kerA) (.int .i64 1)).run Try.prog w = .ok (.agg #[.string sLinear, .func (.func 25) #[] #[], .func (.func 26) #[] #[]]) w := by kernel_rfl
theorem ker_ix2 (w : World) : (Instr.index 59 (.agg kerA) (.int .i64 2)).run Try.prog w = .ok (.agg #[.string sCubic, .func (.func 27) #[] #[], .func (.func 28) #[] #[]]) w := by kernel_rfl
theorem ker_ix3 (w : World) : (Instr.index 59 (.agg kerA) (.int .i64 3)).run Try.prog w = .ok (.agg #[.string sSuper, .func (.func 25) #[] #[], .func (.func 26) #[] #[]]) w := by kernel_rfl
theorem ker_f0 (a b c : Value) (w : World) : (Instr.field 58 (.agg #[a, b, c]) 0).run Try.prog w = .ok a w := by kernel_rfl
theorem ker_f2 (a b c : Value) (w : World) : (Instr.field 58 (.agg #[a, b, c]) 2).run Try.prog w = .ok c w := by kernel_rfl
def nameR (k : Int) : ByteArray := if k = 0 then sNear else if k = 1 then sLinear else if k = 2 then sCubic else if k = 3 then sSuper else ⟨#[]⟩
set_option maxHeartbeats 1000000 in
theorem name_any (k : Int) (w : World) : Calls Try.prog 20 #[.int .i64 k] w fun e w' => e = .returned (.string (nameR k)) ∧ Below w.heap.size w w' := by
  by_cases h : 0 ≤ k ∧ k ≤ 3
  · have hd : decide (0 ≤ k ∧ k ≤ 3) = true := decide_eq_true h
    have h4 : k = 0 ∨ k = 1 ∨ k = 2 ∨ k = 3 := by omega
    clear h
    rcases h4 with rfl | rfl | rfl | rfl
    · have hi := ker_ix0
      have hf := ker_f0
      go_enter Try.func20, Try.ntmps20
      go_wp2_with (first
        | (go_at_call 18; (with_reducible refine (is_any _ _).mono ?_); rintro e w' ⟨rfl, rfl⟩; rw [hd])
        | (go_at_call 17; (with_reducible refine (kernels_any _).mono ?_); rintro e w1 ⟨rfl, hb1⟩))
      go_returns
      exact ⟨rfl, hb1⟩
    · have hi := ker_ix1
      have hf := ker_f0
      go_enter Try.func20, Try.ntmps20
      go_wp2_with (first
        | (go_at_call 18; (with_reducible refine (is_any _ _).mono ?_); rintro e w' ⟨rfl, rfl⟩; rw [hd])
        | (go_at_call 17; (with_reducible refine (kernels_any _).mono ?_); rintro e w1 ⟨rfl, hb1⟩))
      go_returns
      exact ⟨rfl, hb1⟩
    · have hi := ker_ix2
      have hf := ker_f0
      go_enter Try.func20, Try.ntmps20
      go_wp2_with (first
        | (go_at_call 18; (with_reducible refine (is_any _ _).mono ?_); rintro e w' ⟨rfl, rfl⟩; rw [hd])
        | (go_at_call 17; (with_reducible refine (kernels_any _).mono ?_); rintro e w1 ⟨rfl, hb1⟩))
      go_returns
      exact ⟨rfl, hb1⟩
    · have hi := ker_ix3
      have hf := ker_f0
      go_enter Try.func20, Try.ntmps20
      go_wp2_with (first
        | (go_at_call 18; (with_reducible refine (is_any _ _).mono ?_); rintro e w' ⟨rfl, rfl⟩; rw [hd])
        | (go_at_call 17; (with_reducible refine (kernels_any _).mono ?_); rintro e w1 ⟨rfl, hb1⟩))
      go_returns
      exact ⟨rfl, hb1⟩
  · have hd : decide (0 ≤ k ∧ k ≤ 3) = false := decide_eq_false h
    have HN : Hid (nameR k = ⟨#[]⟩) := by show _ = _; unfold nameR; rw [if_neg (by omega), if_neg (by omega), if_neg (by omega), if_neg (by omega)]
    clear h
    go_enter Try.func20, Try.ntmps20
    go_wp2_with (go_at_call 18; (with_reducible refine (is_any _ _).mono ?_); rintro e w' ⟨rfl, rfl⟩; rw [hd])
    go_returns
    exact ⟨by rw [HN.out]; rfl, Below.refl _ _⟩
end Go.Proofs.Ytnnbpmlllidkiaa
