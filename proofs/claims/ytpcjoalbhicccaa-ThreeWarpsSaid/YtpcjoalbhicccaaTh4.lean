/- Slants' numbers, of the program and of the references. -/
import Derived.Test.YtpcjoalbhicccaaTh3
set_option linter.unusedVariables false
namespace Go.Proofs.Ytpcjoalbhicccaa
open Go.RowKit
theorem mulb {a b A B : Int} (h1 : -A ≤ a) (h2 : a ≤ A) (h3 : -B ≤ b) (h4 : b ≤ B) : -(A * B) ≤ a * b ∧ a * b ≤ A * B := by
  have h := Nat.mul_le_mul (show a.natAbs ≤ A.toNat by omega) (show b.natAbs ≤ B.toNat by omega)
  rw [← Int.natAbs_mul] at h
  have e : ((A.toNat * B.toNat : Nat) : Int) = A * B := by rw [Int.natCast_mul, Int.toNat_of_nonneg (by omega), Int.toNat_of_nonneg (by omega)]
  omega
abbrev bdI (m z : Int) : Prop := -m ≤ z ∧ z ≤ m
def inB (z m : Int) : Bool := decide (-m ≤ z ∧ z ≤ m)
theorem inB_iff {z m : Int} : inB z m = true ↔ (-m ≤ z ∧ z ≤ m) := by unfold inB; exact decide_eq_true_iff
theorem inB_eq (z m : Int) : inB z m = (decide (-m ≤ z) && decide (z ≤ m)) := by unfold inB; simp
set_option maxHeartbeats 400000 in
theorem tin_any (a b : Int) (w : World) (hb0 : 0 ≤ b) (hb : b ≤ 9223372036854775807) : Calls Try.prog 61 #[.int .i64 a, .int .i64 b] w fun e w' => e = .returned (.bool (inB a b)) ∧ w = w' := by
  have hw : wrap64 (-b) = -b := IntWalk.wrap64_in _ ⟨by omega, by omega⟩
  by_cases h1 : -b ≤ a
  all_goals
    go_enter Try.func61, Try.ntmps61
    go_wp2
    go_ret
    exact ⟨ret_bool (by rw [inB_eq]; simp <;> omega), rfl⟩
set_option maxHeartbeats 400000 in
theorem sin_any (a b : Int) (w : World) (hb0 : 0 ≤ b) (hb : b ≤ 9223372036854775807) : Calls Try.prog 53 #[.int .i64 a, .int .i64 b] w fun e w' => e = .returned (.bool (inB a b)) ∧ w = w' := by
  have hw : wrap64 (-b) = -b := IntWalk.wrap64_in _ ⟨by omega, by omega⟩
  by_cases h1 : -b ≤ a
  all_goals
    go_enter Try.func53, Try.ntmps53
    go_wp2
    go_ret
    exact ⟨ret_bool (by rw [inB_eq]; simp <;> omega), rfl⟩
set_option maxHeartbeats 400000 in
theorem in18_any (a b : Int) (w : World) (hb0 : 0 ≤ b) (hb : b ≤ 9223372036854775807) : Calls Try.prog 29 #[.int .i64 a, .int .i64 b] w fun e w' => e = .returned (.bool (inB a b)) ∧ w = w' := by
  have hw : wrap64 (-b) = -b := IntWalk.wrap64_in _ ⟨by omega, by omega⟩
  by_cases h1 : -b ≤ a
  all_goals
    go_enter Try.func29, Try.ntmps29
    go_wp2
    go_ret
    exact ⟨ret_bool (by rw [inB_eq]; simp <;> omega), rfl⟩
def okS (b x y : Int) : Bool := inB b 262144 && (inB x 32768 && inB y 32768)
theorem okS_iff {b x y : Int} : okS b x y = true ↔ bdI 262144 b ∧ bdI 32768 x ∧ bdI 32768 y := by
  unfold okS; simp only [Bool.and_eq_true, inB_iff]
abbrev sl3 (b x y : Int) : Value := .agg #[.int .i64 b, .int .i64 x, .int .i64 y]
set_option maxHeartbeats 1000000 in
theorem ok_any (b x y : Int) (w : World) : Calls Try.prog 47 #[sl3 b x y] w fun e w' => e = .returned (.bool (okS b x y)) ∧ Below w.heap.size w w' := by
  go_enter Try.func47, Try.ntmps47
  go_wp2_with (go_at_call 61; (with_reducible refine (tin_any _ _ _ (by decide) (by decide)).mono ?_); rintro e w' ⟨rfl, rfl⟩)
  all_goals
    go_returns
    refine ⟨ret_bool ?_, by go_grown⟩
    simp_all [okS]
def rnd (z : Int) : Int := (z + 32768) / 65536
theorem shr16 (z : Int) : z >>> (16 : Nat) = z / 65536 := by rw [Int.shiftRight_eq_div_pow]; rfl
set_option maxHeartbeats 400000 in
theorem tround_any (z : Int) (w : World) (h1 : -4611686018427387904 ≤ z) (h2 : z ≤ 4611686018427387904) : Calls Try.prog 54 #[.int .i64 z] w fun e w' => e = .returned (.int .i64 (rnd z)) ∧ w = w' := by
  have hw : wrap64 (z + 32768) = z + 32768 := IntWalk.wrap64_in _ ⟨by omega, by omega⟩
  go_enter Try.func54, Try.ntmps54
  go_wp2
  go_ret
  exact ⟨ret_int (by unfold rnd; try simp [shr16]), rfl⟩
end Go.Proofs.Ytpcjoalbhicccaa
