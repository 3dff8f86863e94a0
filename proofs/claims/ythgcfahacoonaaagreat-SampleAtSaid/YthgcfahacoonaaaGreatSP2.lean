/- quot: the nearer quotient; weight: sums as bytes. -/
import Derived.Test.YthgcfahacoonaaaGreatK4
import Derived.Test.YthgcfahacoonaaaGreatNP
import Derived.Test.YthgcfahacoonaaaGreatSP0
set_option linter.unusedVariables false
namespace Go.Proofs.YthgcfahacoonaaaGreat
open Go.RowKit
theorem fq_pos {a b : Int} (hb : 0 < b) : fq a b = a / b ∧ fr a b = a % b := by
  have h1 : fq a b = a / b := by unfold fq; rw [if_neg (by omega)]
  refine ⟨h1, ?_⟩
  unfold fr
  rw [h1]
  have := Int.mul_ediv_add_emod a b
  omega
/-- Room enough. -/
def J62 (z : Int) : Prop := -4611686018427387904 ≤ z ∧ z ≤ 4611686018427387904
theorem div_62 {a b : Int} (ha : J62 a) (hb : 1 ≤ b) : J62 (a / b) ∧ J62 (a / b + 1 - 1) := by
  have h : -4611686018427387904 ≤ a / b ∧ a / b ≤ 4611686018427387904 := by
    unfold J62 at ha
    constructor
    · have h1 : (-4611686018427387904 : Int) ≤ -4611686018427387904 / b ∨ True := .inr trivial
      have h2 : -4611686018427387904 * b ≤ a := by
        have : 4611686018427387904 * 1 ≤ 4611686018427387904 * b := Int.mul_le_mul_of_nonneg_left hb (by omega)
        omega
      exact Int.le_ediv_of_mul_le (by omega) h2
    · rcases Int.le_total 0 a with h0 | h0
      · have := Int.ediv_le_self b h0; omega
      · have : a / b ≤ 0 := by
          rcases Int.lt_or_le 0 (a / b) with h | h
          · have h3 := Int.mul_pos (show 0 < b by omega) h
            have h4 := Int.mul_ediv_add_emod a b
            have h5 := Int.emod_nonneg a (show b ≠ 0 by omega)
            omega
          · exact h
        omega
  exact ⟨h, by rw [Int.add_sub_cancel]; exact h⟩
set_option maxRecDepth 100000 in
set_option maxHeartbeats 8000000 in
theorem qhalfB (a b : Int) (w : World) (ha : J62 a) (hb : 1 ≤ b) (hb2 : b ≤ 4611686018427387904) :
    Calls Tryz.prog 222 #[WV a, .int .i64 b] w fun e w' => e = .returned (.tuple #[WV (nearZ a b), .bool true]) ∧ Below w.heap.size w w' := by
  have hW := fun w' => qwide_any a b w' (by unfold J62 at ha; unfold Wq; omega) (by omega) (by unfold J64; omega)
  rw [(fq_pos (show 0 < b by omega)).1, (fq_pos (show 0 < b by omega)).2] at hW
  have hN := near_parts (a := a) (show 0 < b by omega)
  have r0 := Int.emod_nonneg a (show b ≠ 0 by omega)
  have r1 := Int.emod_lt_of_pos a (show 0 < b by omega)
  obtain ⟨q0, q1⟩ := (div_62 ha hb).1
  have hO := fun w' => wof_any 1 w' (by unfold J64; omega)
  have hA := fun w' => wadd_any (a / b) 1 w' (by unfold Wd; omega) (by unfold Wd; omega) (by unfold Wd; omega)
  have hb0 : (b == 0) = false := beq_eq_false_iff_ne.2 (by omega)
  have hL := ((Lie.start w).alloc (wdA a) 223).alloc #[.int .i64 0, .int .u64 0] 223
  simp only [World.size_alloc] at hL
  generalize a / b = q at *
  generalize a % b = r at *
  have u1 : IntKind.u64.wrap r = r := by rw [uw]; omega
  have u2 : IntKind.u64.wrap b = b := by rw [uw]; omega
  have u3 : IntKind.u64.wrap (b - r) = b - r := by rw [uw]; omega
  have HN := Lib.hid hN
  clear hN ha
  by_cases hlt : r < b - r
  · have HN2 := Lib.hid (HN.out.trans (if_pos hlt))
    clear HN q0 q1 hO hA
    go_enter Tryz.func222, Tryz.ntmps222
    go_wp2_with (first
      | (go_at_call 204; (with_reducible refine (hW _).mono ?_); rintro e w1 ⟨rfl, hb1⟩; have hL1 := (hL.nx hb1).alloc (wdA q) 223; have k4 : Bk _ (w.heap.size + 1) 223 #[.int .i64 0, .int .u64 0] := hL1.k 1 (by simp))
      | (refine stWd rfl _ _ rfl k4 rfl rfl rfl ?_; intro w4 k5 hg4 hs4))
    refine bodyPost_ret (res_wd_tmp rfl k5 rfl) rfl ?_
    exact ⟨by rw [HN2.out]; rfl, below_of_gb hL1.bel hg4 (by omega) hL1.sz⟩
  · have HN2 := Lib.hid (HN.out.trans (if_neg hlt))
    have h4 : b - r ≤ r := by omega
    clear HN q0 q1 hlt
    go_enter Tryz.func222, Tryz.ntmps222
    go_wp2_with (first
      | (go_at_call 204; (with_reducible refine (hW _).mono ?_); rintro e w1 ⟨rfl, hb1⟩; have hL1 := (hL.nx hb1).alloc (wdA q) 223; have k4 : Bk _ (w.heap.size + 1) 223 #[.int .i64 0, .int .u64 0] := hL1.k 1 (by simp)))
    have k6 : Bk _ w1.heap.size 223 (wdA q) := hL1.k 0 (by simp)
    generalize hg6 : w1.heap.size = g6 at *
    clear k4 hb1 hL hW
    generalize w1.alloc (.cells (wdA q) 223) = w2 at *
    refine wp_region_quiet_tail 5 (by kernel_rfl) (by kernel_rfl) ?_
    simp only [List.take_succ_cons, List.take_zero, List.drop_succ_cons, List.drop_zero]
    repeat (first | (refine wpQuiet_load rfl _ _ rfl k6 rfl Tryz.underlying223 rfl wd_size ?_; simp only [Act.put, List.setIfInBounds_toArray, List.set_cons_zero, List.set_cons_succ]) | go_big_quiet_step ((first | with_reducible exact quiet_below (hO _) | with_reducible exact quiet_below (hA _))) | quiet_step ((first | with_reducible exact quiet_below (hO _) | with_reducible exact quiet_below (hA _))))
    refine wpQuiet_nil ?_
    intro _ hw'
    obtain ⟨⟨d', os⟩, hw''⟩ := hw'
    subst hw''
    have hbx := below_regrown w2 d' os
    generalize Go.Sort.grow (redrawn w2 d') os = wx at *
    have hLx := hL1.nx hbx
    have k1x : Bk wx (w.heap.size + 1) 223 #[.int .i64 0, .int .u64 0] := hLx.k 1 (by simp)
    go_wp2_with (refine stWd rfl _ _ rfl k1x rfl rfl rfl ?_; intro w4 k5 hg4 hs4)
    refine bodyPost_ret (res_wd_tmp rfl k5 rfl) rfl ?_
    exact ⟨by rw [HN2.out]; rfl, below_of_gb hLx.bel hg4 (by omega) hLx.sz⟩
theorem near_62 {a b : Int} (ha : J62 a) (hb : 1 ≤ b) : J64 (nearZ a b) := by
  have h := (div_62 ha hb).1
  rw [near_parts (by omega)]
  unfold J62 at h
  unfold J64
  split <;> omega
set_option maxRecDepth 100000 in
set_option maxHeartbeats 8000000 in
theorem qnearB (a b : Int) (w : World) (ha : J62 a) (hb : 1 ≤ b) (hb2 : b ≤ 4611686018427387904) :
    Calls Tryz.prog 188 #[.int .i64 a, .int .i64 b] w fun e w' => e = .returned (.tuple #[.int .i64 (nearZ a b), .bool true]) ∧ Below w.heap.size w w' := by
  have hH := fun w' => qhalfB a b w' ha hb hb2
  have hO := fun w' => wof_any a w' (by unfold J62 at ha; unfold J64; omega)
  have hF := fun w' => fits64_yes (nearZ a b) w' (near_62 ha hb)
  have hb0 := Below.refl w.heap.size w
  generalize nearZ a b = z at *
  clear ha hb hb2
  go_enter Tryz.func188, Tryz.ntmps188
  go_wp2_with (first
    | (go_at_call 223; (with_reducible refine (hO _).mono ?_); rintro e w3 ⟨rfl, hb3⟩)
    | (go_at_call 222; (with_reducible refine (hH _).mono ?_); rintro e w4 ⟨rfl, hb4⟩; have hb4' := (hb3.trans (hb4.mono hb3.size)).alloc (Nat.le_trans hb3.size hb4.size) (.cells (wdA z) 223))
    | (go_at_call 224; (with_reducible refine (hF _).mono ?_); rintro e w5 ⟨rfl, hb5⟩))
  go_returns
  exact ⟨rfl, hb4'.trans (hb5.mono hb4'.size)⟩
attribute [local go_sem high] run_maxM run_minM
set_option maxRecDepth 100000 in
set_option maxHeartbeats 8000000 in
theorem wbyte_any (a b : Int) (w : World) (ha : J62 a) (hb : 1 ≤ b) (hb2 : b ≤ 4611686018427387904) :
    Calls Tryz.prog 145 #[.int .i64 a, .int .i64 b] w fun e w' => e = .returned (.int .u8 (byteZ a b)) ∧ Below w.heap.size w w' := by
  have hN := fun w' => qnearB a b w' ha hb hb2
  have HB : Hid (byteZ a b = max 0 (min (nearZ a b) 255)) := rfl
  clear ha
  generalize nearZ a b = z at *
  have hb1 : decide (b < 1) = false := decide_eq_false (by omega)
  have hu : ∀ x : Int, 0 ≤ x → x ≤ 255 → IntKind.u8.wrap x = x := fun x h1 h2 => by rw [IntKind.wrap_u8]; omega
  have hu2 := hu (max 0 (min z 255)) (by omega) (by omega)
  clear hu
  generalize hX : max 0 (min z 255) = X at *
  go_enter Tryz.func145, Tryz.ntmps145
  go_wp2_with (go_at_call 188; (with_reducible refine (hN _).mono ?_); rintro e w2 ⟨rfl, hb2⟩)
  go_returns
  exact ⟨by rw [HB.out]; first | (rw [← hu2]; rfl) | rfl, hb2⟩
end Go.Proofs.YthgcfahacoonaaaGreat
