/- Quotients of numbers that have room: rounded down, rounded to the nearer one. -/
import Derived.Test.YtlbiiljncacdoaaGreatHm7
set_option linter.unusedVariables false
namespace Go.Proofs.YtlbiiljncacdoaaGreat
open Go.RowKit
theorem fdiv_eq (a b : Int) (hb : 1 ≤ b) (h : a.tmod b ≠ 0) (ha : a < 0) : a / b = a.tdiv b - 1 := by
  have h1 := Int.tdiv_eq_ediv (a := a) (b := b)
  have h2 := Int.tmod_eq_emod (a := a) (b := b)
  have h3 := Int.emod_nonneg a (show b ≠ 0 by omega)
  have h4 := Int.emod_lt_of_pos a (show 0 < b by omega)
  have h5 : b.sign = 1 := Int.sign_eq_one_of_pos (by omega)
  rw [h5] at h1
  by_cases hd : b ∣ a
  · exact absurd (Int.tmod_eq_zero_of_dvd hd) h
  · rw [if_neg (by omega)] at h1; omega
theorem fdiv_eq0 (a b : Int) (hb : 1 ≤ b) (h : a.tmod b = 0) : a / b = a.tdiv b := by
  have h1 := Int.tdiv_eq_ediv (a := a) (b := b)
  rw [if_pos (.inr (Int.dvd_of_tmod_eq_zero h))] at h1; omega
theorem ediv_neg_bd (a b : Int) (hb : 1 ≤ b) (h : a < 0) : a ≤ a / b ∧ a / b ≤ 0 := by
  have h1 := Int.mul_ediv_add_emod a b
  have h2 := Int.emod_nonneg a (show b ≠ 0 by omega)
  have h3 := Int.emod_lt_of_pos a (show 0 < b by omega)
  constructor
  · rcases Int.lt_or_le (a / b) a with h4 | h4
    · exfalso
      have h5 : b * (a / b + 1) ≤ 1 * (a / b + 1) := Int.mul_le_mul_of_nonpos_right hb (by omega)
      rw [Int.mul_add] at h5
      omega
    · exact h4
  · rcases Int.lt_or_le 0 (a / b) with h4 | h4
    · exfalso
      have : 0 ≤ b * (a / b) := Int.mul_nonneg (by omega) (by omega)
      omega
    · exact h4
set_option maxHeartbeats 400000 in
theorem qfloor_any (a b : Int) (w : World) (hb : 1 ≤ b) (hb2 : b ≤ 9223372036854775807) (ha : -9223372036854775808 < a ∧ a ≤ 9223372036854775807) :
    Calls Tryz.prog 240 #[.int .i64 a, .int .i64 b] w fun e w' => e = .returned (.tuple #[.int .i64 (a / b), .bool true]) ∧ w = w' := by
  have hbn : decide (b < 0) = false := by simp; omega
  have hb0 : decide (b = 0) = false := by simp; omega
  have hb1 : (b == 0) = false := by simp; omega
  have hmn : (a == -9223372036854775808) = false := by simp; omega
  have hb3 : (b == -1) = false := by simp; omega
  by_cases h1 : a < 0
  · have hq := ediv_neg_bd a b hb h1
    have hq2 : -9223372036854775808 ≤ a / b := by omega
    by_cases h0 : a.tmod b = 0
    · have HE := Lib.hid (fdiv_eq0 a b hb h0)
      have h0' : (a.tmod b != 0) = false := by simpa using h0
      go_enter Tryz.func240, Tryz.ntmps240
      go_wp2
      all_goals
        go_returns
        exact ⟨by rw [HE.out]; rfl, rfl⟩
    · have e := fdiv_eq a b hb h0 h1
      have HE := Lib.hid e; rw [e] at hq hq2; clear e
      have h0' : (a.tmod b != 0) = true := by simpa using h0
      have hw : wrap64 (a.tdiv b - 1) = a.tdiv b - 1 := IntWalk.wrap64_in _ ⟨by omega, by omega⟩
      go_enter Tryz.func240, Tryz.ntmps240
      go_wp2
      all_goals
        go_returns
        exact ⟨by rw [HE.out]; rfl, rfl⟩
  · have HX := Lib.hid (Int.tdiv_eq_ediv_of_nonneg (b := b) (show 0 ≤ a by omega))
    go_enter Tryz.func240, Tryz.ntmps240
    go_wp2
    all_goals
      go_returns
      exact ⟨by first | rfl | (rw [← HX.out]; rfl), rfl⟩
set_option maxHeartbeats 400000 in
theorem rdown_any (a b : Int) (w : World) (hb : 1 ≤ b) (ha : -9223372036854775808 ≤ a ∧ a ≤ 9223372036854775807) (hb2 : b ≤ 9223372036854775807) :
    Calls Tryz.prog 25 #[.int .i64 a, .int .i64 b] w fun e w' => e = .returned (.int .i64 (a / b)) ∧ w = w' := by
  have hbn : decide (b < 0) = false := by simp; omega
  by_cases h1 : a < 0
  · have hq := ediv_neg_bd a b hb h1
    have hq2 : -9223372036854775808 ≤ a / b := by omega
    by_cases h0 : a.tmod b = 0
    · have e := fdiv_eq0 a b hb h0
      have HE := Lib.hid e; clear e
      go_enter Tryz.func25, Tryz.ntmps25
      go_wp2
      go_ret
      exact ⟨ret_int HE.out.symm, rfl⟩
    · have e := fdiv_eq a b hb h0 h1
      have HE := Lib.hid e; rw [e] at hq hq2; clear e
      have h0' : (a.tmod b != 0) = true := by simpa using h0
      go_enter Tryz.func25, Tryz.ntmps25
      go_wp2
      go_ret
      exact ⟨ret_int HE.out.symm, rfl⟩
  · go_enter Tryz.func25, Tryz.ntmps25
    go_wp2
    all_goals
      go_ret
      exact ⟨rfl, rfl⟩
/-- A quotient, rounded to the nearer number, of two the greater one. -/
def nrF (p d : Int) : Int := (2 * p + d) / (2 * d)
theorem nr_eq {p d : Int} (hd : 1 ≤ d) : nrF p d = if 2 * (p - d * (p / d)) < d then p / d else p / d + 1 := by
  unfold nrF
  have e1 := Int.mul_ediv_add_emod p d
  have e2 := Int.emod_nonneg p (show d ≠ 0 by omega)
  have e3 := Int.emod_lt_of_pos p (show 0 < d by omega)
  have e4 : p - d * (p / d) = p % d := by omega
  rw [e4]
  generalize p % d = r at *
  generalize p / d = q at *
  split
  · refine ((Int.ediv_emod_unique (show 0 < 2 * d by omega) (r := 2 * r + d)).2 ⟨?_, by omega, by omega⟩).1
    rw [← e1, Int.mul_assoc]; omega
  · refine ((Int.ediv_emod_unique (show 0 < 2 * d by omega) (r := 2 * r - d)).2 ⟨?_, by omega, by omega⟩).1
    rw [← e1, Int.mul_add, Int.mul_assoc]; omega
theorem div_bd {p d : Int} {B : Int} (hd : 1 ≤ d) (h : -B ≤ p) (h' : p ≤ B) (hB : 0 ≤ B) : -B ≤ p / d ∧ p / d ≤ B := by
  constructor
  · refine Int.le_ediv_of_mul_le (by omega) ?_
    have : B * 1 ≤ B * d := Int.mul_le_mul_of_nonneg_left hd hB
    rw [Int.neg_mul]; omega
  · have h1 : p / d * d ≤ p := Int.ediv_mul_le p (by omega)
    rcases Int.lt_or_le B (p / d) with h2 | h2
    · exfalso
      have : (B + 1) * 1 ≤ p / d * d := Int.mul_le_mul h2 hd (by omega) (by omega)
      omega
    · exact h2
theorem nr_bd {p d : Int} {B : Int} (hd : 1 ≤ d) (h : -B ≤ p) (h' : p ≤ B) (hB : 0 ≤ B) : -B ≤ nrF p d ∧ nrF p d ≤ B + 1 := by
  have := div_bd hd h h' hB
  rw [nr_eq hd]
  split <;> omega
set_option maxHeartbeats 400000 in
theorem rnear_any (p d : Int) (w : World) (hd : 1 ≤ d) (hd2 : d ≤ 1073741824) (hp : -1152921504606846976 ≤ p) (hp2 : p ≤ 1152921504606846976) :
    Calls Tryz.prog 86 #[.int .i64 p, .int .i64 d] w fun e w' => e = .returned (.int .i64 (nrF p d)) ∧ w = w' := by
  have hD := fun w' => rdown_any (2 * p + d) (2 * d) w' (by omega) ⟨by omega, by omega⟩ (by omega)
  go_enter Tryz.func86, Tryz.ntmps86
  go_wp2_with (go_at_call 25; (with_reducible refine (hD _).mono ?_); rintro e w' ⟨rfl, rfl⟩)
  go_ret
  exact ⟨rfl, rfl⟩
set_option maxRecDepth 100000 in
set_option maxHeartbeats 4000000 in
theorem qhalf_any (p d : Int) (w : World) (hd : 1 ≤ d) (hd2 : d ≤ 1073741824) (hp : -1152921504606846976 ≤ p) (hp2 : p ≤ 1152921504606846976) :
    Calls Tryz.prog 260 #[WV p, .int .i64 d] w fun e w' => e = .returned (.tuple #[WV (nrF p d), .bool true]) ∧ Below w.heap.size w w' := by
  have hq : fq p d = p / d := by unfold fq; rw [if_neg (by omega)]
  have hr : fr p d = p - d * (p / d) := by unfold fr; rw [hq]
  have hW := fun w' => qwide_any p d w' (by unfold Wq; omega) (by omega) (by unfold J64; omega)
  rw [hq, hr] at hW
  have hb := div_bd (B := 1152921504606846976) hd hp hp2 (by decide)
  have e2 := Int.emod_nonneg p (show d ≠ 0 by omega)
  have e3 := Int.emod_lt_of_pos p (show 0 < d by omega)
  have e1 := Int.mul_ediv_add_emod p d
  have hA := fun w' => wadd_any (p / d) 1 w' (by unfold Wd; omega) (by unfold Wd; omega) (by unfold Wd; omega)
  have hO := fun w' => wof_any 1 w' (by unfold J64; omega)
  have HE := Lib.hid (nr_eq (p := p) hd)
  have hL := ((Lie.start w).alloc (wdA p) 261).alloc #[.int .i64 0, .int .u64 0] 261
  simp only [World.size_alloc] at hL
  have hb0 : (d == 0) = false := beq_eq_false_iff_ne.2 (by omega)
  obtain ⟨r, hr'⟩ : ∃ r, p - d * (p / d) = r := ⟨_, rfl⟩
  have hr0 : 0 ≤ r ∧ r < d := by omega
  obtain ⟨hr0, hr1⟩ := hr0
  rw [hr'] at hW HE
  have u1 : IntKind.u64.wrap r = r := by rw [uw]; omega
  have u2 : IntKind.u64.wrap d = d := by rw [uw]; omega
  have u3 : IntKind.u64.wrap (d - r) = d - r := by rw [uw]; omega
  clear hq hr e1 e2 e3 hr'
  generalize p / d = q at *
  by_cases h2 : 2 * r < d
  · have HN : Hid (nrF p d = q) := by show _ = _; rw [HE.out, if_pos h2]
    have h3 : r < d - r := by omega
    clear HE hp hp2 hb hA hO h2
    go_enter Tryz.func260, Tryz.ntmps260
    go_wp2_with (first
      | (go_at_call 248; (with_reducible refine (hW _).mono ?_); rintro e w1 ⟨rfl, hb1⟩; have hL1 := (hL.nx hb1).alloc (wdA q) 261; have k4 : Bk _ (w.heap.size + 1) 261 #[.int .i64 0, .int .u64 0] := hL1.k 1 (by simp))
      | (refine stWd rfl _ _ rfl k4 rfl rfl rfl ?_; intro w4 k5 hg4 hs4))
    refine bodyPost_ret (res_wd_tmp rfl k5 rfl) rfl ?_
    exact ⟨by rw [HN.out]; rfl, below_of_gb hL1.bel hg4 (by omega) hL1.sz⟩
  · have HN : Hid (nrF p d = q + 1) := by show _ = _; rw [HE.out, if_neg h2]
    have h3 : ¬ r < d - r := by omega
    have h4 : d - r ≤ r := by omega
    clear HE hp hp2 hb h2 h3
    go_enter Tryz.func260, Tryz.ntmps260
    go_wp2_with (first
      | (go_at_call 248; (with_reducible refine (hW _).mono ?_); rintro e w1 ⟨rfl, hb1⟩; have hL1 := (hL.nx hb1).alloc (wdA q) 261; have k4 : Bk _ (w.heap.size + 1) 261 #[.int .i64 0, .int .u64 0] := hL1.k 1 (by simp)))
    have k6 : Bk _ w1.heap.size 261 (wdA q) := hL1.k 0 (by simp)
    generalize hg6 : w1.heap.size = g6 at *
    clear k4 hb1 hL hW
    generalize w1.alloc (.cells (wdA q) 261) = w2 at *
    refine wp_region_quiet_tail 5 (by kernel_rfl) (by kernel_rfl) ?_
    simp only [List.take_succ_cons, List.take_zero, List.drop_succ_cons, List.drop_zero]
    repeat (first | (refine wpQuiet_load rfl _ _ rfl k6 rfl Tryz.underlying261 rfl wd_size ?_; simp only [Act.put, List.setIfInBounds_toArray, List.set_cons_zero, List.set_cons_succ]) | go_big_quiet_step ((first | with_reducible exact quiet_below (hO _) | with_reducible exact quiet_below (hA _))) | quiet_step ((first | with_reducible exact quiet_below (hO _) | with_reducible exact quiet_below (hA _))))
    refine wpQuiet_nil ?_
    intro _ hw'
    obtain ⟨⟨d', os⟩, hw''⟩ := hw'
    subst hw''
    have hbx := below_regrown w2 d' os
    generalize Go.Sort.grow (redrawn w2 d') os = wx at *
    have hLx := hL1.nx hbx
    have k1x : Bk wx (w.heap.size + 1) 261 #[.int .i64 0, .int .u64 0] := hLx.k 1 (by simp)
    go_wp2_with (refine stWd rfl _ _ rfl k1x rfl rfl rfl ?_; intro w4 k5 hg4 hs4)
    refine bodyPost_ret (res_wd_tmp rfl k5 rfl) rfl ?_
    exact ⟨by rw [HN.out]; rfl, below_of_gb hLx.bel hg4 (by omega) hLx.sz⟩
set_option maxHeartbeats 4000000 in
theorem qnear_any (p d : Int) (w : World) (hd : 1 ≤ d) (hd2 : d ≤ 1073741824) (hp : -1152921504606846976 ≤ p) (hp2 : p ≤ 1152921504606846976) :
    Calls Tryz.prog 235 #[.int .i64 p, .int .i64 d] w fun e w' => e = .returned (.tuple #[.int .i64 (nrF p d), .bool true]) ∧ Below w.heap.size w w' := by
  have hO := fun w' => wof_any p w' (by unfold J64; omega)
  have hH := fun w' => qhalf_any p d w' hd hd2 hp hp2
  have hb := nr_bd (B := 1152921504606846976) hd hp hp2 (by decide)
  have hF := fun w' => fits64_yes (nrF p d) w' (by unfold J64; omega)
  have hL := Lie.start w
  clear hb hp hp2 hd hd2
  generalize nrF p d = q at *
  go_enter Tryz.func235, Tryz.ntmps235
  go_wp2_with (first
    | (go_at_call 261; (with_reducible refine (hO _).mono ?_); rintro e w1 ⟨rfl, hb1⟩; have hL1 := hL.nx hb1)
    | (go_at_call 260; (with_reducible refine (hH _).mono ?_); rintro e w2 ⟨rfl, hb2⟩; have hL2 := (hL1.nx hb2).alloc (wdA q) 261)
    | (go_at_call 262; (with_reducible refine (hF _).mono ?_); rintro e w3 ⟨rfl, hb3⟩; have hL3 := hL2.nx hb3))
  go_returns
  exact ⟨rfl, hL3.bel⟩
end Go.Proofs.YtlbiiljncacdoaaGreat
