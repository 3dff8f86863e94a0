/- Rectangles: areas, places. -/
import Derived.Test.YtpcjoalbhicccaaTh2
import Derived.Deep.QuietTactic
import Derived.BigQuiet
set_option linter.unusedVariables false
namespace Go.Proofs.Ytpcjoalbhicccaa
open Go.RowKit
def areaR (a b c d : Int) : Int := if emptyR a b c d then 0 else if 9223372036854775807 / (d - b) < c - a then 9223372036854775807 else (c - a) * (d - b)
theorem areaR_mul {a b c d : Int} (he : ¬ emptyR a b c d) : ∃ W H : Int, c - a = W ∧ d - b = H ∧ 1 ≤ W ∧ 1 ≤ H ∧ W ≤ 4294967296 ∧ H ≤ 4294967296 ∧ wrap64 (c - a) = W ∧ wrap64 (d - b) = H ∧ Int.tdiv 9223372036854775807 H = 9223372036854775807 / H ∧ 0 ≤ 9223372036854775807 / H ∧ 9223372036854775807 / H ≤ 9223372036854775807 ∧ (¬ 9223372036854775807 / H < W → wrap64 (W * H) = W * H) := by
  have hr : rightR a b c d := by
    by_cases h : rightR a b c d
    · exact h
    · exact absurd (.inl h) he
  have h1 : ¬ c ≤ a := fun h => he (.inr (.inl h))
  have h2 : ¬ d ≤ b := fun h => he (.inr (.inr h))
  obtain ⟨ha, hb, hc, hd⟩ := hr
  refine ⟨_, _, rfl, rfl, by omega, by omega, by omega, by omega, wsub hc ha, wsub hd hb, ?_, ?_, ?_, fun h => ?_⟩
  · rw [Int.tdiv_eq_ediv_of_nonneg (by omega)]
  · exact Int.ediv_nonneg (by omega) (by omega)
  · exact Int.ediv_le_self _ (by omega)
  · have h3 : (c - a) * (d - b) ≤ 9223372036854775807 := (Int.le_ediv_iff_mul_le (by omega)).1 (by omega)
    have h4 : 0 ≤ (c - a) * (d - b) := Int.mul_nonneg (by omega) (by omega)
    exact IntWalk.wrap64_in _ ⟨by omega, by omega⟩
set_option maxHeartbeats 1000000 in
theorem area_any (a b c d : Int) (w : World) : Calls Try.prog 57 #[rect4 a b c d] w fun e w' => e = .returned (.int .i64 (areaR a b c d)) ∧ Below w.heap.size w w' := by
  by_cases he : emptyR a b c d
  · have hd : decide (emptyR a b c d) = true := decide_eq_true he
    have HE := Lib.hid (show areaR a b c d = 0 by unfold areaR; rw [if_pos he])
    clear he
    go_enter Try.func57, Try.ntmps57
    go_wp2_with (go_at_call 48; (with_reducible refine (empty_any _ _ _ _ _).mono ?_); rintro e w' ⟨rfl, hb⟩; have hcb := bcell hb; have hb1 := bl_alloc hb; have hz1 := hb1.size)
    go_returns
    exact ⟨by rw [HE.out]; rfl, hb1⟩
  · obtain ⟨W, H, e1, e2, h1, h2, h3, h4, w1, w2, h5, h6, h7, h8⟩ := areaR_mul he
    have hd' : decide (emptyR a b c d) = false := decide_eq_false he
    have HE := Lib.hid (show areaR a b c d = if 9223372036854775807 / H < W then 9223372036854775807 else W * H by unfold areaR; rw [if_neg he, e1, e2])
    clear he e1 e2
    by_cases hq : 9223372036854775807 / H < W
    all_goals
      try (have h9 := h8 hq)
      clear h8
      generalize hQ : 9223372036854775807 / H = Q at *
      clear hQ
      have HQ := Lib.hid hq
      go_enter Try.func57, Try.ntmps57
      go_wp2_with (go_at_call 48; (with_reducible refine (empty_any _ _ _ _ _).mono ?_); rintro e w' ⟨rfl, hb⟩; have hcb := bcell hb; have hb1 := bl_alloc hb; have hz1 := hb1.size)
      go_quiet (fail)
      go_wp2
      go_returns
      exact ⟨ret_int (by rw [HE.out]; first | (rw [if_pos (by have := HQ.out; omega)]; done) | (rw [if_neg (by have := HQ.out; omega)]; exact h9)), below_drewN hb1 _⟩
set_option maxHeartbeats 1000000 in
theorem rarea_any (a b c d : Int) (w : World) : Calls Try.prog 7 #[rect4 a b c d] w fun e w' => e = .returned (.int .i64 (areaR a b c d)) ∧ Below w.heap.size w w' := by
  by_cases he : emptyR a b c d
  · have HE := Lib.hid (show areaR a b c d = 0 by unfold areaR; rw [if_pos he])
    go_enter Try.func7, Try.ntmps7
    go_wp2_with (go_at_call 22; (with_reducible refine (rnorm_e _ _ _ _ _ he).mono ?_); rintro e w' ⟨rfl, hb⟩; clear he; have hcb := bcell hb; have hb1 := bl_alloc hb; have hz1 := hb1.size)
    go_returns
    exact ⟨by rw [HE.out]; rfl, by go_grown⟩
  · obtain ⟨W, H, e1, e2, h1, h2, h3, h4, w1, w2, h5, h6, h7, h8⟩ := areaR_mul he
    have HE := Lib.hid (show areaR a b c d = if 9223372036854775807 / H < W then 9223372036854775807 else W * H by unfold areaR; rw [if_neg he, e1, e2])
    clear e1 e2
    have HN := Lib.hid he
    clear he
    by_cases hq : 9223372036854775807 / H < W
    all_goals
      try (have h9 := h8 hq)
      clear h8
      generalize hQ : 9223372036854775807 / H = Q at *
      clear hQ
      have HQ := Lib.hid hq
      go_enter Try.func7, Try.ntmps7
      go_wp2_with (go_at_call 22; (with_reducible refine (rnorm_ok _ _ _ _ _ (by exact HN.out)).mono ?_); rintro e w' ⟨rfl, hb⟩; have hcb := bcell hb; have hb1 := bl_alloc hb; have hz1 := hb1.size)
      go_returns
      exact ⟨ret_int (by rw [HE.out]; first | (rw [if_pos (by have := HQ.out; omega)]; done) | (rw [if_neg (by have := HQ.out; omega)]; exact h9) | (rw [if_neg (by have := HQ.out; omega)]; done)), by go_grown⟩
theorem area_zero (a b c d : Int) : areaR a b c d = 0 ↔ emptyR a b c d := by
  constructor
  · intro h
    by_cases he : emptyR a b c d
    · exact he
    · obtain ⟨W, H, e1, e2, h1, h2, _⟩ := areaR_mul he
      have h3 : 0 < W * H := Int.mul_pos (by omega) (by omega)
      unfold areaR at h
      rw [if_neg he, e1, e2] at h
      split at h <;> omega
  · intro he
    unfold areaR; rw [if_pos he]
def hasB (a b c d x y : Int) : Bool := decide (¬ emptyR a b c d ∧ a ≤ x ∧ x < c ∧ b ≤ y ∧ y < d)
theorem hasB_e {a b c d x y : Int} (h : emptyR a b c d) : hasB a b c d x y = false := decide_eq_false (fun k => k.1 h)
theorem hasB_yes {a b c d x y : Int} (h : ¬ emptyR a b c d) (h1 : a ≤ x) (h2 : x < c) (h3 : b ≤ y) (h4 : y < d) : hasB a b c d x y = true := decide_eq_true ⟨h, h1, h2, h3, h4⟩
theorem hasB_no {a b c d x y : Int} (h : ¬ (a ≤ x ∧ x < c ∧ b ≤ y ∧ y < d)) : hasB a b c d x y = false := decide_eq_false (fun k => h k.2)
theorem hasB_iff {a b c d x y : Int} : hasB a b c d x y = true ↔ (¬ emptyR a b c d ∧ a ≤ x ∧ x < c ∧ b ≤ y ∧ y < d) := by unfold hasB; exact decide_eq_true_iff
set_option maxHeartbeats 1000000 in
theorem has_any (a b c d x y : Int) (w : World) : Calls Try.prog 50 #[rect4 a b c d, .int .i64 x, .int .i64 y] w fun e w' => e = .returned (.bool (hasB a b c d x y)) ∧ Below w.heap.size w w' := by
  by_cases he : emptyR a b c d
  · have hd' : decide (emptyR a b c d) = true := decide_eq_true he
    have HE := Lib.hid he
    clear he
    go_enter Try.func50, Try.ntmps50
    go_wp2_with (go_at_call 48; (with_reducible refine (empty_any _ _ _ _ _).mono ?_); rintro e w' ⟨rfl, hb⟩; have hcb := bcell hb; have hb1 := bl_alloc hb; have hz1 := hb1.size)
    go_returns
    exact ⟨ret_bool (by rw [hasB_e HE.out]), hb1⟩
  · have hd' : decide (emptyR a b c d) = false := decide_eq_false he
    have HE := Lib.hid he
    clear he
    go_enter Try.func50, Try.ntmps50
    go_wp2_with (go_at_call 48; (with_reducible refine (empty_any _ _ _ _ _).mono ?_); rintro e w' ⟨rfl, hb⟩; have hcb := bcell hb; have hb1 := bl_alloc hb; have hz1 := hb1.size)
    all_goals
      go_returns
      refine ⟨ret_bool ?_, hb1⟩
      have hb2 := HE.out
      clear hcb hb
      first
        | (rw [hasB_yes hb2 (by omega) (by omega) (by omega) (by omega)]; done)
        | (rw [hasB_no (by omega)]; done)
        | (rw [hasB_yes hb2 (by omega) (by omega) (by omega) (by omega)]; simp; omega)
        | (rw [hasB_no (by omega)]; simp; omega)
        | (by_cases h4 : y < d; (rw [hasB_yes hb2 (by omega) (by omega) (by omega) (by omega)]; simp [h4]); (rw [hasB_no (by omega)]; simp [h4]; try omega))
set_option maxHeartbeats 1000000 in
theorem rhas_any (a b c d x y : Int) (w : World) : Calls Try.prog 31 #[rect4 a b c d, .int .i64 x, .int .i64 y] w fun e w' => e = .returned (.bool (hasB a b c d x y)) ∧ Below w.heap.size w w' := by
  by_cases he : emptyR a b c d
  · go_enter Try.func31, Try.ntmps31
    have HE := Lib.hid he
    by_cases h0 : 0 ≤ x
    all_goals
      go_wp2_with (go_at_call 22; (with_reducible refine (rnorm_e _ _ _ _ _ he).mono ?_); rintro e w' ⟨rfl, hb⟩; clear he; have hcb := bcell hb; have hb1 := bl_alloc hb; have hz1 := hb1.size)
      all_goals
        go_returns
        exact ⟨ret_bool (by rw [hasB_e HE.out]; try (simp; omega)), by go_grown⟩
  · have HE := Lib.hid he
    clear he
    go_enter Try.func31, Try.ntmps31
    go_wp2_with (go_at_call 22; (with_reducible refine (rnorm_ok _ _ _ _ _ (by exact HE.out)).mono ?_); rintro e w' ⟨rfl, hb⟩; have hcb := bcell hb; have hb1 := bl_alloc hb; have hz1 := hb1.size)
    all_goals
      go_returns
      refine ⟨ret_bool ?_, by go_grown⟩
      have hb2 := HE.out
      clear hcb hb
      first
        | (rw [hasB_yes hb2 (by omega) (by omega) (by omega) (by omega)]; done)
        | (rw [hasB_no (by omega)]; done)
        | (rw [hasB_yes hb2 (by omega) (by omega) (by omega) (by omega)]; simp; omega)
        | (rw [hasB_no (by omega)]; simp; omega)
        | (by_cases h4 : y < d; (rw [hasB_yes hb2 (by omega) (by omega) (by omega) (by omega)]; simp [h4]); (rw [hasB_no (by omega)]; simp [h4]; try omega))
end Go.Proofs.Ytpcjoalbhicccaa
