/- Quotients of wide numbers: sizes, digits. -/
import Derived.Test.YtlbiiljncacdoaaGreatDv1
set_option linter.unusedVariables false
namespace Go.Proofs.YtlbiiljncacdoaaGreat
open Go.RowKit
theorem div64_any (hi lo y : Int) (w : World) (hy : 0 < y) (hy2 : y < 18446744073709551616) (hl : 0 ≤ lo) (hl2 : lo < 18446744073709551616) (hh : 0 ≤ hi) (hh2 : hi < y) :
    Calls Tryz.prog 281 #[.int .u64 hi, .int .u64 lo, .int .u64 y] w fun e w' => e = .returned (.tuple #[.int .u64 ((hi * 18446744073709551616 + lo) / y), .int .u64 ((hi * 18446744073709551616 + lo) % y)]) ∧ Below w.heap.size w w' := by
  by_cases h : hi = 0
  · subst h
    exact (div64_0 lo y w hy hy2 hl hl2).mono fun e w' ⟨h1, n, h2⟩ => ⟨by rw [h1, Int.zero_mul, Int.zero_add], by rw [h2]; exact below_drewN (Below.refl _ _) n⟩
  · obtain ⟨s, h1, h2, h3, h4⟩ := lz_any y w hy hy2
    exact (div64_1 hi lo y s w hy hy2 hl hl2 (by omega) hh2 h1 h4 h2 h3).mono fun e w' ⟨k1, k2⟩ => ⟨k1, by rw [← k2]; exact Below.refl _ _⟩
theorem div_facts {z y : Int} (h0 : 0 ≤ z) (hy : 0 < y) : (hi6 z % y * 18446744073709551616 + lo6 z) / y = lo6 (z / y) ∧ (hi6 z % y * 18446744073709551616 + lo6 z) % y = z % y ∧ hi6 z / y = hi6 (z / y) := by
  have e := Int.emod_add_mul_ediv (hi6 z) y
  have e1 := Int.emod_nonneg (hi6 z) (by omega : y ≠ 0)
  have e2 := Int.emod_lt_of_pos (hi6 z) hy
  have ez : z = hi6 z * 18446744073709551616 + lo6 z := by unfold hi6 lo6; omega
  have l0 : 0 ≤ lo6 z := by unfold lo6; omega
  have l1 : lo6 z < 18446744073709551616 := by unfold lo6; omega
  generalize hi6 z = h at *
  generalize lo6 z = l at *
  generalize h % y = r at *
  generalize h / y = a at *
  have ez2 : z = (r * 18446744073709551616 + l) + y * (a * 18446744073709551616) := by
    rw [ez, ← e, Int.add_mul, Int.mul_assoc]; omega
  have b0 : 0 ≤ (r * 18446744073709551616 + l) / y := Int.ediv_nonneg (by omega) (by omega)
  have b1 : (r * 18446744073709551616 + l) / y < 18446744073709551616 := Int.ediv_lt_of_lt_mul hy (by omega)
  have q : z / y = (r * 18446744073709551616 + l) / y + a * 18446744073709551616 := by rw [ez2, Int.add_mul_ediv_left _ _ (by omega : y ≠ 0)]
  refine ⟨?_, ?_, ?_⟩
  · rw [q]; unfold lo6; omega
  · rw [ez2, Int.add_mul_emod_self_left]
  · rw [q]; unfold hi6; omega
set_option maxHeartbeats 4000000 in
theorem qdiv_any (z y : Int) (w : World) (hz : 0 ≤ z) (hz2 : z < 340282366920938463463374607431768211456) (hy : 0 < y) (hy2 : y < 18446744073709551616) :
    Calls Tryz.prog 267 #[.int .u64 (hi6 z), .int .u64 (lo6 z), .int .u64 y] w fun e w' => e = .returned (.tuple #[.int .u64 (hi6 (z / y)), .int .u64 (lo6 (z / y)), .int .u64 (z % y)]) ∧ Below w.heap.size w w' := by
  have l0 : 0 ≤ lo6 z := by unfold lo6; omega
  have l1 : lo6 z < 18446744073709551616 := by unfold lo6; omega
  have h0 : 0 ≤ hi6 z := by unfold hi6; omega
  have h1 : hi6 z < 18446744073709551616 := by unfold hi6; omega
  have e1 := Int.emod_nonneg (hi6 z) (by omega : y ≠ 0)
  have e2 := Int.emod_lt_of_pos (hi6 z) hy
  obtain ⟨f1, f2, f3⟩ := div_facts hz hy
  have hA := fun w' => div64_any 0 (hi6 z) y w' hy hy2 h0 h1 (by omega) hy
  have hB := fun w' => div64_any (hi6 z % y) (lo6 z) y w' hy hy2 l0 l1 e1 e2
  rw [Int.zero_mul, Int.zero_add, f3] at hA
  rw [f1, f2] at hB
  generalize hi6 (z / y) = qh at *
  generalize lo6 (z / y) = ql at *
  generalize z % y = r at *
  generalize hi6 z % y = r1 at *
  generalize hi6 z = zh at *
  generalize lo6 z = zl at *
  clear l0 l1 h0 h1 e1 e2 f1 f2 f3 hz hz2
  go_enter Tryz.func267, Tryz.ntmps267
  go_wp2_with fail
  refine (hA _).mono ?_
  rintro e w1 ⟨rfl, hb1⟩
  go_wp2_with fail
  refine (hB _).mono ?_
  rintro e w2 ⟨rfl, hb2⟩
  go_wp2_with fail
  go_returns
  exact ⟨rfl, hb1.trans (hb2.mono hb1.size)⟩
set_option maxRecDepth 100000 in
set_option maxHeartbeats 4000000 in
theorem size_wd (a : Int) (w : World) (ha : Wd a) : Calls Tryz.prog 266 #[WV a] w fun e w' => e = .returned (.tuple #[.int .u64 (hi6 (ab a)), .int .u64 (lo6 (ab a))]) ∧ Below w.heap.size w w' := by
  by_cases hn : a < 0
  · obtain ⟨ua, c, e1, e2, d, e3⟩ := apart_facts ha hn
    have h1 := (wh a).s.2 hn
    clear ha hn
    go_enter Tryz.func266, Tryz.ntmps266
    go_wp2
    go_returns
    exact ⟨rfl, by go_grown⟩
  · have h1 : 0 ≤ hi6 a := by unfold hi6; omega
    have e1 : IntKind.u64.wrap (hi6 a) = hi6 (ab a) := by rw [uw]; unfold ab; rw [if_neg hn]; unfold hi6; unfold Wd at ha; omega
    have e2 : lo6 a = lo6 (ab a) := by unfold ab; rw [if_neg hn]
    have E2 := Lib.hid e2
    have hbz := (Below.refl w.heap.size w).alloc (Nat.le_refl _) (.cells (wdA a) 261)
    clear ha hn e2
    go_enter Tryz.func266, Tryz.ntmps266
    go_wp2
    go_quiet (fail)
    go_wp2
    go_returns
    exact ⟨ret_t2 rfl E2.out, below_drewN hbz _⟩
set_option maxRecDepth 100000 in
set_option maxHeartbeats 4000000 in
theorem qaway_any (z : Int) (neg : Bool) (w : World) (h0 : 0 ≤ z) (h1 : Wd z) : Calls Tryz.prog 269 #[.int .u64 (hi6 z), .int .u64 (lo6 z), .bool neg] w fun e w' => e = .returned (.tuple #[WV (if neg = true then -z else z), .bool true]) ∧ Below w.heap.size w w' := by
  obtain ⟨c, uh, d, e3, e4, e5⟩ := minus_facts h0 h1
  unfold Wd at h1
  have e1 : ¬ 9223372036854775808 < hi6 z := by unfold hi6; omega
  have e2 : (hi6 z == 9223372036854775808) = false := beq_eq_false_iff_ne.2 (by unfold hi6; omega)
  have e6 : hi6 z < 9223372036854775808 := by unfold hi6; omega
  have e7 : wrap64 (hi6 z) = hi6 z := by rw [w64]; unfold hi6; omega
  clear h0 h1
  cases neg
  all_goals
    go_enter Tryz.func269, Tryz.ntmps269
    go_wp2
    go_returns
    exact ⟨rfl, by go_grown⟩

def cutF (z : Int) : Int := if z < -70368744177664 then -70368744177664 else if 70368744177664 < z then 70368744177664 else z
set_option maxHeartbeats 4000000 in
theorem qcut_any (z : Int) (w : World) (hz : Wd z) : Calls Tryz.prog 249 #[WV z] w fun e w' => e = .returned (.int .i64 (cutF z)) ∧ Below w.heap.size w w' := by
  have hL := (Lie.start w).alloc (wdA z) 261
  by_cases hi : J64 z
  · have hF := fun w' => fits64_yes z w' hi
    have hS := fun w' => wsign_any z w'
    have hc : (z < -70368744177664 ∧ sgn z < 0) ∨ (70368744177664 < z ∧ 0 ≤ sgn z) ∨ (-70368744177664 ≤ z ∧ z ≤ 70368744177664) := by unfold sgn; split <;> (try split) <;> omega
    clear hi hz
    rcases hc with ⟨h1, h2⟩ | ⟨h1, h2⟩ | ⟨h1, h2⟩
    · have HC := Lib.hid (show cutF z = -70368744177664 by unfold cutF; rw [if_pos h1])
      go_enter Tryz.func249, Tryz.ntmps249
      go_wp2_with (first
        | (go_at_call 262; (with_reducible refine (hF _).mono ?_); rintro e w1 ⟨rfl, hb1⟩; have hL1 := hL.nx hb1; have k1 : Bk w1 w.heap.size 261 (wdA z) := hL1.k 0 (by simp); obtain ⟨c0, c1⟩ := k1.cell2)
        | (go_at_call 256; (with_reducible refine (hS _).mono ?_); rintro e w2 ⟨rfl, hb2⟩; have hL2 := hL1.nx hb2))
      go_returns
      exact ⟨ret_int HC.out.symm, hL2.bel⟩
    · have HC := Lib.hid (show cutF z = 70368744177664 by unfold cutF; rw [if_neg (by omega), if_pos h1])
      go_enter Tryz.func249, Tryz.ntmps249
      go_wp2_with (first
        | (go_at_call 262; (with_reducible refine (hF _).mono ?_); rintro e w1 ⟨rfl, hb1⟩; have hL1 := hL.nx hb1; have k1 : Bk w1 w.heap.size 261 (wdA z) := hL1.k 0 (by simp); obtain ⟨c0, c1⟩ := k1.cell2)
        | (go_at_call 256; (with_reducible refine (hS _).mono ?_); rintro e w2 ⟨rfl, hb2⟩; have hL2 := hL1.nx hb2))
      go_returns
      exact ⟨ret_int HC.out.symm, hL2.bel⟩
    · have HC := Lib.hid (show cutF z = z by unfold cutF; rw [if_neg (by omega), if_neg (by omega)])
      go_enter Tryz.func249, Tryz.ntmps249
      go_wp2_with (go_at_call 262; (with_reducible refine (hF _).mono ?_); rintro e w1 ⟨rfl, hb1⟩; have hL1 := hL.nx hb1; have k1 : Bk w1 w.heap.size 261 (wdA z) := hL1.k 0 (by simp); obtain ⟨c0, c1⟩ := k1.cell2)
      go_returns
      exact ⟨ret_int HC.out.symm, hL1.bel⟩
  · have hF := fun w' => fits64_no z w' hi
    have hS := fun w' => wsign_any z w'
    have hc : (sgn z < 0 ∧ cutF z = -70368744177664) ∨ (0 ≤ sgn z ∧ cutF z = 70368744177664) := by unfold sgn cutF; unfold J64 at hi; split <;> (try split) <;> (try split) <;> omega
    clear hi hz
    rcases hc with ⟨h1, h2⟩ | ⟨h1, h2⟩
    all_goals
      have HC := Lib.hid h2
      clear h2
      go_enter Tryz.func249, Tryz.ntmps249
      go_wp2_with (first
        | (go_at_call 262; (with_reducible refine (hF _).mono ?_); rintro e w1 ⟨rfl, hb1⟩; have hL1 := hL.nx hb1; have k1 : Bk w1 w.heap.size 261 (wdA z) := hL1.k 0 (by simp); obtain ⟨c0, c1⟩ := k1.cell2)
        | (go_at_call 256; (with_reducible refine (hS _).mono ?_); rintro e w2 ⟨rfl, hb2⟩; have hL2 := hL1.nx hb2))
      go_returns
      exact ⟨ret_int HC.out.symm, hL2.bel⟩
end Go.Proofs.YtlbiiljncacdoaaGreat
