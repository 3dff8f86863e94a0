/- Slants: how far rows and columns move. -/
import Derived.Test.YtpcjoalbhicccaaTh4
set_option linter.unusedVariables false
namespace Go.Proofs.Ytpcjoalbhicccaa
open Go.RowKit
/-- by how much: by * (y - c), to the nearer whole. -/
def mv (b c y : Int) : Int := rnd (b * (y - c))
theorem mv_bd {b c y : Int} (hb : bdI 262144 b) (hc : bdI 32768 c) (hy : bdI 4294967296 y) : bdI 1125908496777216 (b * (y - c)) ∧ bdI 17180000300 (mv b c y) := by
  have h := mulb hb.1 hb.2 (show -(4295000064:Int) ≤ y - c by omega) (show y - c ≤ 4295000064 by omega)
  unfold mv rnd
  omega
set_option maxHeartbeats 1000000 in
theorem across_any (b x y t : Int) (w : World) (hb : bdI 262144 b) (hy : bdI 32768 y) (ht : bdI 4294967296 t) : Calls Try.prog 36 #[sl3 b x y, .int .i64 t] w fun e w' => e = .returned (.int .i64 (mv b y t)) ∧ Below w.heap.size w w' := by
  obtain ⟨h1, h2⟩ := mv_bd hb hy ht
  have w1 : wrap64 (t - y) = t - y := IntWalk.wrap64_in _ ⟨by omega, by omega⟩
  have w2 : wrap64 (b * (t - y)) = b * (t - y) := IntWalk.wrap64_in _ ⟨by omega, by omega⟩
  have HM := Lib.hid (show mv b y t = rnd (b * (t - y)) from rfl)
  clear h2 hb hy ht
  have h3 : -4611686018427387904 ≤ b * (t - y) := by omega
  have h4 : b * (t - y) ≤ 4611686018427387904 := by omega
  clear h1
  go_enter Try.func36, Try.ntmps36
  go_wp2_with (go_at_call 54; (with_reducible refine (tround_any _ _ h3 h4).mono ?_); rintro e w' ⟨rfl, rfl⟩)
  go_returns
  exact ⟨ret_int (by rw [HM.out]), by go_grown⟩
set_option maxHeartbeats 1000000 in
theorem along_any (b x y t : Int) (w : World) (hb : bdI 262144 b) (hy : bdI 32768 x) (ht : bdI 4294967296 t) : Calls Try.prog 37 #[sl3 b x y, .int .i64 t] w fun e w' => e = .returned (.int .i64 (mv b x t)) ∧ Below w.heap.size w w' := by
  obtain ⟨h1, h2⟩ := mv_bd hb hy ht
  have w1 : wrap64 (t - x) = t - x := IntWalk.wrap64_in _ ⟨by omega, by omega⟩
  have w2 : wrap64 (b * (t - x)) = b * (t - x) := IntWalk.wrap64_in _ ⟨by omega, by omega⟩
  have HM := Lib.hid (show mv b x t = rnd (b * (t - x)) from rfl)
  clear h2 hb hy ht
  have h3 : -4611686018427387904 ≤ b * (t - x) := by omega
  have h4 : b * (t - x) ≤ 4611686018427387904 := by omega
  clear h1
  go_enter Try.func37, Try.ntmps37
  go_wp2_with (go_at_call 54; (with_reducible refine (tround_any _ _ h3 h4).mono ?_); rintro e w' ⟨rfl, rfl⟩)
  go_returns
  exact ⟨ret_int (by rw [HM.out]), by go_grown⟩
/-- where one comes from, across and along. -/
abbrev pl2 (u v : Int) : Value := .tuple #[.int .i64 u, .int .i64 v]
set_option maxHeartbeats 1000000 in
theorem from_any (b x y s t : Int) (w : World) (hb : bdI 262144 b) (hy : bdI 32768 y) (ht : bdI 4294967296 t) (hs : bdI 4294967296 s) : Calls Try.prog 25 #[sl3 b x y, .int .i64 s, .int .i64 t] w fun e w' => e = .returned (pl2 (s + mv b y t) t) ∧ Below w.heap.size w w' := by
  obtain ⟨h1, h2⟩ := mv_bd hb hy ht
  have w1 : wrap64 (s + mv b y t) = s + mv b y t := IntWalk.wrap64_in _ ⟨by omega, by omega⟩
  have HB := Lib.hid hb
  have HY := Lib.hid hy
  have HT := Lib.hid ht
  clear h1 h2 hb hy ht
  go_enter Try.func25, Try.ntmps25
  go_wp2_with (go_at_call 36; (with_reducible refine (across_any _ _ _ _ _ HB.out HY.out HT.out).mono ?_); rintro e w' ⟨rfl, hb⟩; have hcb := bcell hb; have hb1 := bl_alloc hb)
  go_returns
  exact ⟨ret_t2 (by first | exact w1 | rfl) (by first | exact w1 | rfl), hb1⟩
set_option maxHeartbeats 1000000 in
theorem down_any (b x y s t : Int) (w : World) (hb : bdI 262144 b) (hy : bdI 32768 x) (ht : bdI 4294967296 t) (hs : bdI 4294967296 s) : Calls Try.prog 26 #[sl3 b x y, .int .i64 s, .int .i64 t] w fun e w' => e = .returned (pl2 s (t + mv b x s)) ∧ Below w.heap.size w w' := by
  obtain ⟨h1, h2⟩ := mv_bd hb hy hs
  have w1 : wrap64 (t + mv b x s) = t + mv b x s := IntWalk.wrap64_in _ ⟨by omega, by omega⟩
  have HB := Lib.hid hb
  have HY := Lib.hid hy
  have HT := Lib.hid hs
  clear h1 h2 hb hy hs ht
  go_enter Try.func26, Try.ntmps26
  go_wp2_with (go_at_call 37; (with_reducible refine (along_any _ _ _ _ _ HB.out HY.out HT.out).mono ?_); rintro e w' ⟨rfl, hb⟩; have hcb := bcell hb; have hb1 := bl_alloc hb)
  go_returns
  exact ⟨ret_t2 (by first | exact w1 | rfl) (by first | exact w1 | rfl), hb1⟩
theorem fdiv_eq (a b : Int) (hb : 1 ≤ b) (h : a.tmod b ≠ 0) (ha : a < 0) : a / b = a.tdiv b - 1 := by
  have h1 := Int.tdiv_eq_ediv (a := a) (b := b)
  have h2 := Int.tmod_eq_emod (a := a) (b := b)
  have h3 := Int.emod_nonneg a (show b ≠ 0 by omega)
  have h4 := Int.emod_lt_of_pos a (show 0 < b by omega)
  have h5 : b.sign = 1 := Int.sign_eq_one_of_pos (by omega)
  rw [h5] at h1
  by_cases hd : b ∣ a
  · exact absurd (Int.tmod_eq_zero_of_dvd hd) h
  · rw [if_neg (by omega)] at h1; omega
theorem fdiv_eq0 (a b : Int) (hb : 1 ≤ b) (h : a.tmod b = 0) : a / b = a.tdiv b := by
  have h1 := Int.tdiv_eq_ediv (a := a) (b := b)
  rw [if_pos (.inr (Int.dvd_of_tmod_eq_zero h))] at h1; omega
theorem ediv_neg_bd (a b : Int) (hb : 1 ≤ b) (h : a < 0) : a ≤ a / b ∧ a / b ≤ 0 := by
  have h1 := Int.mul_ediv_add_emod a b
  have h2 := Int.emod_nonneg a (show b ≠ 0 by omega)
  have h3 := Int.emod_lt_of_pos a (show 0 < b by omega)
  constructor
  · rcases Int.lt_or_le (a / b) a with h4 | h4
    · exfalso
      have h5 : b * (a / b + 1) ≤ 1 * (a / b + 1) := Int.mul_le_mul_of_nonpos_right hb (by omega)
      rw [Int.mul_add] at h5
      omega
    · exact h4
  · rcases Int.lt_or_le 0 (a / b) with h4 | h4
    · exfalso
      have : 0 ≤ b * (a / b) := Int.mul_nonneg (by omega) (by omega)
      omega
    · exact h4
set_option maxHeartbeats 400000 in
theorem rdown_any (a b : Int) (w : World) (hb : 1 ≤ b) (ha : -9223372036854775808 ≤ a ∧ a ≤ 9223372036854775807) (hb2 : b ≤ 9223372036854775807) :
    Calls Try.prog 66 #[.int .i64 a, .int .i64 b] w fun e w' => e = .returned (.int .i64 (a / b)) ∧ w = w' := by
  have hbn : decide (b < 0) = false := by simp; omega
  by_cases h1 : a < 0
  · have hq := ediv_neg_bd a b hb h1
    have hq2 : -9223372036854775808 ≤ a / b := by omega
    by_cases h0 : a.tmod b = 0
    · have e := fdiv_eq0 a b hb h0
      have HE := Lib.hid e; clear e
      go_enter Try.func66, Try.ntmps66
      go_wp2
      go_ret
      exact ⟨ret_int HE.out.symm, rfl⟩
    · have e := fdiv_eq a b hb h0 h1
      have HE := Lib.hid e; rw [e] at hq hq2; clear e
      have h0' : (a.tmod b != 0) = true := by simpa using h0
      go_enter Try.func66, Try.ntmps66
      go_wp2
      go_ret
      exact ⟨ret_int HE.out.symm, rfl⟩
  · go_enter Try.func66, Try.ntmps66
    go_wp2
    all_goals
      go_ret
      exact ⟨rfl, rfl⟩
theorem rnd_near (z : Int) : (2 * z + 65536) / 131072 = rnd z := by unfold rnd; omega
set_option maxHeartbeats 400000 in
theorem near_any (z : Int) (w : World) (h1 : -2305843009213693952 ≤ z) (h2 : z ≤ 2305843009213693952) : Calls Try.prog 58 #[.int .i64 z, .int .i64 65536] w fun e w' => e = .returned (.int .i64 (rnd z)) ∧ w = w' := by
  have w1 : wrap64 (2 * z) = 2 * z := IntWalk.wrap64_in _ ⟨by omega, by omega⟩
  have w2 : wrap64 (2 * z + 65536) = 2 * z + 65536 := IntWalk.wrap64_in _ ⟨by omega, by omega⟩
  have HR := Lib.hid (rnd_near z)
  go_enter Try.func58, Try.ntmps58
  go_wp2_with (go_at_call 66; (with_reducible refine (rdown_any _ _ _ (by decide) (by omega) (by decide)).mono ?_); rintro e w' ⟨rfl, rfl⟩)
  go_ret
  exact ⟨ret_int HR.out, rfl⟩
set_option maxHeartbeats 400000 in
theorem rround_any (z : Int) (w : World) (h1 : -2305843009213693952 ≤ z) (h2 : z ≤ 2305843009213693952) : Calls Try.prog 52 #[.int .i64 z] w fun e w' => e = .returned (.int .i64 (rnd z)) ∧ w = w' := by
  go_enter Try.func52, Try.ntmps52
  go_wp2_with (go_at_call 58; (with_reducible refine (near_any _ _ (by omega) (by omega)).mono ?_); rintro e w' ⟨rfl, rfl⟩)
  go_ret
  exact ⟨rfl, rfl⟩
set_option maxHeartbeats 1000000 in
theorem rfrom_f (b x y s t : Int) (w : World) (hb : bdI 262144 b) (hy : bdI 32768 y) (ht : bdI 4294967296 t) (hs : bdI 4294967296 s) : Calls Try.prog 30 #[.bool false, .int .i64 b, .int .i64 x, .int .i64 y, .int .i64 s, .int .i64 t] w fun e w' => e = .returned (pl2 (s + mv b y t) t) ∧ w = w' := by
  obtain ⟨h1, h2⟩ := mv_bd hb hy ht
  have w1 : wrap64 (s + mv b y t) = s + mv b y t := IntWalk.wrap64_in _ ⟨by omega, by omega⟩
  have w2 : wrap64 (t - y) = t - y := IntWalk.wrap64_in _ ⟨by omega, by omega⟩
  have w3 : wrap64 (b * (t - y)) = b * (t - y) := IntWalk.wrap64_in _ ⟨by omega, by omega⟩
  have h3 : -2305843009213693952 ≤ b * (t - y) := by omega
  have h4 : b * (t - y) ≤ 2305843009213693952 := by omega
  clear h1 h2 hb hy ht hs
  go_enter Try.func30, Try.ntmps30
  go_wp2_with (go_at_call 52; (with_reducible refine (rround_any _ _ h3 h4).mono ?_); rintro e w' ⟨rfl, rfl⟩)
  go_returns
  exact ⟨ret_t2 (by first | exact w1 | rfl) (by first | exact w1 | rfl), rfl⟩
set_option maxHeartbeats 1000000 in
theorem rfrom_t (b x y s t : Int) (w : World) (hb : bdI 262144 b) (hy : bdI 32768 x) (ht : bdI 4294967296 t) (hs : bdI 4294967296 s) : Calls Try.prog 30 #[.bool true, .int .i64 b, .int .i64 x, .int .i64 y, .int .i64 s, .int .i64 t] w fun e w' => e = .returned (pl2 s (t + mv b x s)) ∧ w = w' := by
  obtain ⟨h1, h2⟩ := mv_bd hb hy hs
  have w1 : wrap64 (t + mv b x s) = t + mv b x s := IntWalk.wrap64_in _ ⟨by omega, by omega⟩
  have w2 : wrap64 (s - x) = s - x := IntWalk.wrap64_in _ ⟨by omega, by omega⟩
  have w3 : wrap64 (b * (s - x)) = b * (s - x) := IntWalk.wrap64_in _ ⟨by omega, by omega⟩
  have h3 : -2305843009213693952 ≤ b * (s - x) := by omega
  have h4 : b * (s - x) ≤ 2305843009213693952 := by omega
  clear h1 h2 hb hy ht hs
  go_enter Try.func30, Try.ntmps30
  go_wp2_with (go_at_call 52; (with_reducible refine (rround_any _ _ h3 h4).mono ?_); rintro e w' ⟨rfl, rfl⟩)
  go_returns
  exact ⟨ret_t2 (by first | exact w1 | rfl) (by first | exact w1 | rfl), rfl⟩
/-- too large. -/
def largeB (a b c d : Int) : Bool := decide (32768 < wrap64 (c - a)) || (decide (32768 < wrap64 (d - b)) || decide (4194304 < areaR a b c d))
set_option maxHeartbeats 1000000 in
theorem large_any (a b c d : Int) (w : World) : Calls Try.prog 43 #[rect4 a b c d] w fun e w' => e = .returned (.bool (largeB a b c d)) ∧ Below w.heap.size w w' := by
  go_enter Try.func43, Try.ntmps43
  go_wp2_with (go_at_call 57; (with_reducible refine (area_any _ _ _ _ _).mono ?_); rintro e w' ⟨rfl, hb⟩; have hcb := bcell hb; have hb1 := bl_alloc hb)
  all_goals
    go_returns
    refine ⟨ret_bool ?_, by first | assumption | go_grown⟩
    try clear hcb
    unfold largeB
    simp_all [Bool.or_assoc]
set_option maxHeartbeats 1000000 in
theorem rlarge_any (a b c d : Int) (w : World) : Calls Try.prog 8 #[rect4 a b c d] w fun e w' => e = .returned (.bool (largeB a b c d)) ∧ Below w.heap.size w w' := by
  go_enter Try.func8, Try.ntmps8
  go_wp2_with (go_at_call 7; (with_reducible refine (rarea_any _ _ _ _ _).mono ?_); rintro e w' ⟨rfl, hb⟩; have hcb := bcell hb; have hb1 := bl_alloc hb)
  all_goals
    go_returns
    refine ⟨ret_bool ?_, by first | assumption | go_grown⟩
    try clear hcb
    unfold largeB
    simp_all [Bool.or_assoc]
set_option maxHeartbeats 400000 in
theorem ends_any (a b : Int) (w : World) : Calls Try.prog 35 #[.int .i64 a, .int .i64 b] w fun e w' => e = .returned (pl2 (min a b) (max a b)) ∧ w = w' := by
  rcases Int.le_total a b with h | h
  · have H1 := Lib.hid (Int.min_eq_left h)
    have H2 := Lib.hid (Int.max_eq_right h)
    go_enter Try.func35, Try.ntmps35
    go_wp2
    all_goals
      go_returns
      refine ⟨?_, rfl⟩
      rw [H1.out, H2.out]
      first | rfl | exact ret_t2 (by show (_:Int) = _; omega) (by show (_:Int) = _; omega)
  · have H1 := Lib.hid (Int.min_eq_right h)
    have H2 := Lib.hid (Int.max_eq_left h)
    go_enter Try.func35, Try.ntmps35
    go_wp2
    all_goals
      go_returns
      refine ⟨?_, rfl⟩
      rw [H1.out, H2.out]
      first | rfl | exact ret_t2 (by show (_:Int) = _; omega) (by show (_:Int) = _; omega)
set_option maxHeartbeats 400000 in
theorem size_any (a b : Int) (w : World) : Calls Try.prog 41 #[.int .i64 a, .int .i64 b] w fun e w' => e = .returned (.int .i64 (fitsC a b 1)) ∧ w = w' := by
  have hm := wmul_or a b
  go_enter Try.func41, Try.ntmps41
  go_wp2
  all_goals
    go_ret
    refine ⟨ret_int ?_, rfl⟩
    unfold fitsC
    repeat' split
    all_goals omega
def modeC (m : Int) : Int := if m < 0 ∨ 3 < m then 10 else 0
set_option maxHeartbeats 400000 in
theorem bcheck_any (m a b c d : Int) (w : World) : Calls Try.prog 42 #[.agg #[.int .i64 m, .int .u8 a, .int .u8 b, .int .u8 c, .int .u8 d]] w fun e w' => e = .returned (.int .i64 (modeC m)) ∧ Below w.heap.size w w' := by
  go_enter Try.func42, Try.ntmps42
  go_wp2
  all_goals
    go_returns
    refine ⟨ret_int ?_, by go_grown⟩
    unfold modeC
    repeat' split
    all_goals first | rfl | omega
end Go.Proofs.Ytpcjoalbhicccaa
