/- Borders, of the program. -/
import Derived.Test.YthgcfahacoonaaaGreatIx1
set_option linter.unusedVariables false
namespace Go.Proofs.YthgcfahacoonaaaGreat
open Go.RowKit
theorem fdiv_eqI (a b : Int) (hb : 1 ≤ b) (h : a.tmod b ≠ 0) (ha : a < 0) : a / b = a.tdiv b - 1 := by
  have h1 := Int.tdiv_eq_ediv (a := a) (b := b)
  have h2 := Int.tmod_eq_emod (a := a) (b := b)
  have h3 := Int.emod_nonneg a (show b ≠ 0 by omega)
  have h4 := Int.emod_lt_of_pos a (show 0 < b by omega)
  have h5 : b.sign = 1 := Int.sign_eq_one_of_pos (by omega)
  rw [h5] at h1
  by_cases hd : b ∣ a
  · exact absurd (Int.tmod_eq_zero_of_dvd hd) h
  · rw [if_neg (by omega)] at h1; omega
theorem fdiv_eq0I (a b : Int) (hb : 1 ≤ b) (h : a.tmod b = 0) : a / b = a.tdiv b := by
  have h1 := Int.tdiv_eq_ediv (a := a) (b := b)
  rw [if_pos (.inr (Int.dvd_of_tmod_eq_zero h))] at h1; omega
theorem ediv_neg_bdI (a b : Int) (hb : 1 ≤ b) (h : a < 0) : a ≤ a / b ∧ a / b ≤ 0 := by
  have h1 := Int.mul_ediv_add_emod a b
  have h2 := Int.emod_nonneg a (show b ≠ 0 by omega)
  have h3 := Int.emod_lt_of_pos a (show 0 < b by omega)
  constructor
  · rcases Int.lt_or_le (a / b) a with h4 | h4
    · exfalso
      have h5 : b * (a / b + 1) ≤ 1 * (a / b + 1) := Int.mul_le_mul_of_nonpos_right hb (by omega)
      rw [Int.mul_add] at h5
      omega
    · exact h4
  · rcases Int.lt_or_le 0 (a / b) with h4 | h4
    · exfalso
      have : 0 ≤ b * (a / b) := Int.mul_nonneg (by omega) (by omega)
      omega
    · exact h4
theorem tmod_pos {a b : Int} (hb : 1 ≤ b) (h : a.tmod b ≠ 0) (ha : a < 0) : a % b = a.tmod b + b := by
  have h1 := fdiv_eqI a b hb h ha
  have h2 := Int.mul_ediv_add_emod a b
  have h3 := Int.mul_tdiv_add_tmod a b
  rw [h1, Int.mul_sub, Int.mul_one] at h2
  omega
theorem tmod_zero {a b : Int} (hb : 1 ≤ b) (h : a.tmod b = 0) : a % b = 0 := Int.emod_eq_zero_of_dvd (Int.dvd_of_tmod_eq_zero h)
set_option maxHeartbeats 400000 in
theorem qmod_any (a b : Int) (w : World) (hb : 1 ≤ b) (hb2 : b ≤ 9223372036854775807) (ha : -9223372036854775808 ≤ a ∧ a ≤ 9223372036854775807) :
    Calls Tryz.prog 198 #[.int .i64 a, .int .i64 b] w fun e w' => e = .returned (.tuple #[.int .i64 (a % b), .bool true]) ∧ w = w' := by
  have hbn : decide (b < 0) = false := by simp; omega
  have hb0 : decide (b = 0) = false := by simp; omega
  have hb1 : (b == 0) = false := by simp; omega
  by_cases h0 : a.tmod b = 0
  · have HX := Lib.hid (tmod_zero hb h0)
    have h0' : (a.tmod b != 0) = false := by simpa using h0
    go_enter Tryz.func198, Tryz.ntmps198
    go_wp2
    all_goals
      go_returns
      exact ⟨by rw [HX.out]; first | rfl | (rw [h0]; rfl), rfl⟩
  · have h0' : (a.tmod b != 0) = true := by simpa using h0
    by_cases h1 : a < 0
    · have HX := Lib.hid (tmod_pos hb h0 h1)
      have h3 := Int.emod_nonneg a (show b ≠ 0 by omega)
      have h4 := Int.emod_lt_of_pos a (show 0 < b by omega)
      have h5 : a.tmod b < 0 := by
        have := tmod_pos hb h0 h1
        omega
      have h6 : wrap64 (a.tmod b + b) = a.tmod b + b := by
        have := tmod_pos hb h0 h1
        exact IntWalk.wrap64_in _ ⟨by omega, by omega⟩
      clear h3 h4
      go_enter Tryz.func198, Tryz.ntmps198
      go_wp2
      all_goals
        go_returns
        exact ⟨by rw [HX.out]; first | rfl | (rw [h6]; rfl), rfl⟩
    · have HX := Lib.hid (Int.tmod_eq_emod_of_nonneg (b := b) (show 0 ≤ a by omega))
      have h5 : 0 ≤ a.tmod b := Int.tmod_nonneg b (by omega)
      have h7 : 0 ≤ a % b := Int.emod_nonneg a (by omega)
      go_enter Tryz.func198, Tryz.ntmps198
      go_wp2
      all_goals
        go_returns
        exact ⟨by first | rfl | (rw [← HX.out]; rfl), rfl⟩
set_option maxHeartbeats 400000 in
theorem qfloor_anyI (a b : Int) (w : World) (hb : 1 ≤ b) (hb2 : b ≤ 9223372036854775807) (ha : -9223372036854775808 < a ∧ a ≤ 9223372036854775807) :
    Calls Tryz.prog 193 #[.int .i64 a, .int .i64 b] w fun e w' => e = .returned (.tuple #[.int .i64 (a / b), .bool true]) ∧ w = w' := by
  have hbn : decide (b < 0) = false := by simp; omega
  have hb0 : decide (b = 0) = false := by simp; omega
  have hb1 : (b == 0) = false := by simp; omega
  have hmn : (a == -9223372036854775808) = false := by simp; omega
  have hb3 : (b == -1) = false := by simp; omega
  by_cases h1 : a < 0
  · have hq := ediv_neg_bdI a b hb h1
    have hq2 : -9223372036854775808 ≤ a / b := by omega
    by_cases h0 : a.tmod b = 0
    · have HE := Lib.hid (fdiv_eq0I a b hb h0)
      have h0' : (a.tmod b != 0) = false := by simpa using h0
      go_enter Tryz.func193, Tryz.ntmps193
      go_wp2
      all_goals
        go_returns
        exact ⟨by rw [HE.out]; rfl, rfl⟩
    · have e := fdiv_eqI a b hb h0 h1
      have HE := Lib.hid e; rw [e] at hq hq2; clear e
      have h0' : (a.tmod b != 0) = true := by simpa using h0
      have hw : wrap64 (a.tdiv b - 1) = a.tdiv b - 1 := IntWalk.wrap64_in _ ⟨by omega, by omega⟩
      go_enter Tryz.func193, Tryz.ntmps193
      go_wp2
      all_goals
        go_returns
        exact ⟨by rw [HE.out]; rfl, rfl⟩
  · have HX := Lib.hid (Int.tdiv_eq_ediv_of_nonneg (b := b) (show 0 ≤ a by omega))
    go_enter Tryz.func193, Tryz.ntmps193
    go_wp2
    all_goals
      go_returns
      exact ⟨by first | rfl | (rw [← HX.out]; rfl), rfl⟩
theorem again_eq {i n : Int} (hn : 1 ≤ n) : (if (i / n) % 2 = 0 then i % n else n - 1 - i % n) = (if i % (2 * n) < n then i % (2 * n) else n - 1 - (i % (2 * n) - n)) := by
  have h1 := Int.mul_ediv_add_emod i n
  have h2 := Int.emod_nonneg i (show n ≠ 0 by omega)
  have h3 := Int.emod_lt_of_pos i (show 0 < n by omega)
  have h4 := Int.mul_ediv_add_emod (i / n) 2
  generalize hq : i / n = q at *
  generalize hr : i % n = r at *
  have h5 : q % 2 = 0 ∨ q % 2 = 1 := by omega
  generalize hk : q / 2 = k at *
  rcases h5 with h5 | h5
  · have e : i % (2 * n) = r := by
      have : i = r + (2 * n) * k := by rw [← h1, show q = 2 * k by omega, Int.mul_comm 2 n, Int.mul_assoc]; omega
      rw [this, Int.add_mul_emod_self_left]
      exact Int.emod_eq_of_lt h2 (by omega)
    rw [if_pos h5, e, if_pos h3]
  · have e : i % (2 * n) = n + r := by
      have : i = (n + r) + (2 * n) * k := by rw [← h1, show q = 2 * k + 1 by omega, Int.mul_add, ← Int.mul_assoc, Int.mul_comm n 2]; omega
      rw [this, Int.add_mul_emod_self_left]
      exact Int.emod_eq_of_lt (by omega) (by omega)
    rw [if_neg (by omega), e, if_neg (by omega)]
    omega
def lastV (n i : Int) : Int := if i < 0 then 0 else n - 1
def backV (n i : Int) : Int := if (i / n) % 2 = 0 then i % n else n - 1 - i % n
abbrev row1 (n : Int) : Value := .agg #[.int .i64 n]
set_option maxHeartbeats 1000000 in
theorem rowlast_any (n i : Int) (w : World) (hn : 1 ≤ n) (hn2 : n ≤ 2147483648) :
    Calls Tryz.prog 150 #[row1 n, .int .i64 i] w fun e w' => e = .returned (.tuple #[.int .i64 (lastV n i), .bool true]) ∧ Below w.heap.size w w' := by
  have w1 : wrap64 (n - 1) = n - 1 := IntWalk.wrap64_in _ ⟨by omega, by omega⟩
  by_cases h : i < 0
  · have HL := Lib.hid (show lastV n i = 0 by unfold lastV; rw [if_pos h])
    go_enter Tryz.func150, Tryz.ntmps150
    go_wp2
    all_goals
      go_returns
      exact ⟨by rw [HL.out]; rfl, by go_grown⟩
  · have HL := Lib.hid (show lastV n i = n - 1 by unfold lastV; rw [if_neg h])
    go_enter Tryz.func150, Tryz.ntmps150
    go_wp2
    all_goals
      go_returns
      exact ⟨by rw [HL.out]; first | rfl | (rw [w1]; rfl), by go_grown⟩
set_option maxHeartbeats 1000000 in
theorem rowagain_any (n i : Int) (w : World) (hn : 1 ≤ n) (hn2 : n ≤ 2147483648) (hi : -9223372036854775808 ≤ i ∧ i ≤ 9223372036854775807) :
    Calls Tryz.prog 151 #[row1 n, .int .i64 i] w fun e w' => e = .returned (.tuple #[.int .i64 (i % n), .bool true]) ∧ Below w.heap.size w w' := by
  go_enter Tryz.func151, Tryz.ntmps151
  go_wp2_with (go_at_call 198; (with_reducible refine (qmod_any _ _ _ hn (by omega) hi).mono ?_); rintro e w' ⟨rfl, rfl⟩)
  go_returns
  exact ⟨rfl, by go_grown⟩
set_option maxHeartbeats 1000000 in
theorem rowback_any (n i : Int) (w : World) (hn : 1 ≤ n) (hn2 : n ≤ 2147483648) (hi : -9223372036854775808 < i ∧ i ≤ 9223372036854775807) :
    Calls Tryz.prog 152 #[row1 n, .int .i64 i] w fun e w' => e = .returned (.tuple #[.int .i64 (backV n i), .bool true]) ∧ Below w.heap.size w w' := by
  have h2 := Int.emod_nonneg i (show n ≠ 0 by omega)
  have h3 := Int.emod_lt_of_pos i (show 0 < n by omega)
  have hi' : -9223372036854775808 ≤ i ∧ i ≤ 9223372036854775807 := by omega
  have w1 : wrap64 (n - 1) = n - 1 := IntWalk.wrap64_in _ ⟨by omega, by omega⟩
  have w2 : wrap64 (n - 1 - i % n) = n - 1 - i % n := IntWalk.wrap64_in _ ⟨by omega, by omega⟩
  have ht : (i / n).tmod 2 = 0 ↔ (i / n) % 2 = 0 := by
    constructor
    · intro h; exact Int.emod_eq_zero_of_dvd (Int.dvd_of_tmod_eq_zero h)
    · intro h; exact Int.tmod_eq_zero_of_dvd (Int.dvd_of_emod_eq_zero h)
  by_cases hp : (i / n) % 2 = 0
  · have hp2 : ((i / n).tmod 2 != 0) = false := by simpa using ht.2 hp
    have HP := Lib.hid (show backV n i = _ from by unfold backV; first | rw [if_pos hp] | rw [if_neg hp])
    clear ht hp
    go_enter Tryz.func152, Tryz.ntmps152
    go_wp2_with (first
      | (go_at_call 193; (with_reducible refine (qfloor_anyI _ _ _ hn (by omega) hi).mono ?_); rintro e w' ⟨rfl, rfl⟩)
      | (go_at_call 198; (with_reducible refine (qmod_any _ _ _ hn (by omega) hi').mono ?_); rintro e w' ⟨rfl, rfl⟩))
    all_goals
      go_returns
      exact ⟨by rw [HP.out]; rfl, by go_grown⟩
  · have hp2 : ((i / n).tmod 2 != 0) = true := by simpa using (fun h => hp (ht.1 h))
    have HP := Lib.hid (show backV n i = _ from by unfold backV; first | rw [if_pos hp] | rw [if_neg hp])
    clear ht hp
    go_enter Tryz.func152, Tryz.ntmps152
    go_wp2_with (first
      | (go_at_call 193; (with_reducible refine (qfloor_anyI _ _ _ hn (by omega) hi).mono ?_); rintro e w' ⟨rfl, rfl⟩)
      | (go_at_call 198; (with_reducible refine (qmod_any _ _ _ hn (by omega) hi').mono ?_); rintro e w' ⟨rfl, rfl⟩))
    all_goals
      go_returns
      exact ⟨by rw [HP.out]; first | rfl | (rw [w2]; rfl), by go_grown⟩
end Go.Proofs.YthgcfahacoonaaaGreat
