/- The signs at four corners are the signs between them: plain. -/
import Derived.Test.YtmnnilkdaibgkaaGreatK2
set_option linter.unusedVariables false
namespace Go.Proofs.YtmnnilkdaibgkaaGreat
open Go.RowKit
theorem rightH_corner {W H : Int} (hW : 1 ≤ W ∧ W ≤ 32768) (hH : 1 ≤ H ∧ H ≤ 32768) : rightH (-1) (-1) 2 = true ∧ rightH (2 * W - 1) (-1) 2 = true ∧ rightH (-1) (2 * H - 1) 2 = true ∧ rightH (2 * W - 1) (2 * H - 1) 2 = true := by
  simp only [rightH_iff]; omega
/-- One coordinate's share lies between its ends. -/
theorem lin_ge {p d u a b : Int} (h1 : a * d ≤ u) (h2 : u ≤ b * d) : p * a * d ≤ p * u ∨ p * b * d ≤ p * u := by
  by_cases hp : 0 ≤ p
  · left
    have := Int.mul_nonneg hp (Int.sub_nonneg.2 h1)
    grind
  · right
    have := Int.mul_nonneg (by omega : 0 ≤ -p) (Int.sub_nonneg.2 h2)
    grind
theorem lin_le {p d u a b : Int} (h1 : a * d ≤ u) (h2 : u ≤ b * d) : p * u ≤ p * a * d ∨ p * u ≤ p * b * d := by
  by_cases hp : 0 ≤ p
  · right
    have := Int.mul_nonneg hp (Int.sub_nonneg.2 h2)
    grind
  · left
    have := Int.mul_nonneg (by omega : 0 ≤ -p) (Int.sub_nonneg.2 h1)
    grind
theorem box_pos {p q r d u v a b c e : Int} (hd : 1 ≤ d) (hu : a * d ≤ u ∧ u ≤ b * d) (hv : c * d ≤ v ∧ v ≤ e * d)
    (h1 : 0 < p * a + q * c + r) (h2 : 0 < p * b + q * c + r) (h3 : 0 < p * a + q * e + r) (h4 : 0 < p * b + q * e + r) : 0 < p * u + q * v + r * d := by
  have k1 := Int.mul_pos h1 (by omega : 0 < d)
  have k2 := Int.mul_pos h2 (by omega : 0 < d)
  have k3 := Int.mul_pos h3 (by omega : 0 < d)
  have k4 := Int.mul_pos h4 (by omega : 0 < d)
  rcases lin_ge (p := p) hu.1 hu.2 with m | m <;> rcases lin_ge (p := q) hv.1 hv.2 with n | n <;> grind
theorem box_neg {p q r d u v a b c e : Int} (hd : 1 ≤ d) (hu : a * d ≤ u ∧ u ≤ b * d) (hv : c * d ≤ v ∧ v ≤ e * d)
    (h1 : p * a + q * c + r < 0) (h2 : p * b + q * c + r < 0) (h3 : p * a + q * e + r < 0) (h4 : p * b + q * e + r < 0) : p * u + q * v + r * d < 0 := by
  have := box_pos (p := -p) (q := -q) (r := -r) hd hu hv (by grind) (by grind) (by grind) (by grind)
  grind
theorem mn4_pos {a b c d : Int} : 0 < mn4 a b c d ↔ 0 < a ∧ 0 < b ∧ 0 < c ∧ 0 < d := by unfold mn4; omega
theorem mx4_neg {a b c d : Int} : mx4 a b c d < 0 ↔ a < 0 ∧ b < 0 ∧ c < 0 ∧ d < 0 := by unfold mx4; omega
/-- The law. -/
theorem signs_plain {a : Nat → Int} {W H : Int} (hW : 1 ≤ W ∧ W ≤ 32768) (hH : 1 ≤ H ∧ H ≤ 32768) (hs : sgH a W H = true) :
    (∀ x y d : Int, rightH x y d = true → -d ≤ 2 * x → 2 * x ≤ (2 * W - 1) * d → -d ≤ 2 * y → 2 * y ≤ (2 * H - 1) * d → 0 < undR a x y d) ∨
    (∀ x y d : Int, rightH x y d = true → -d ≤ 2 * x → 2 * x ≤ (2 * W - 1) * d → -d ≤ 2 * y → 2 * y ≤ (2 * H - 1) * d → undR a x y d < 0) := by
  obtain ⟨r1, r2, r3, r4⟩ := rightH_corner hW hH
  have h0 := hs
  unfold sgH at h0
  rw [Bool.or_eq_true, decide_eq_true_iff, decide_eq_true_iff, mn4_pos, mx4_neg] at h0
  simp only [undR, r1, r2, r3, r4, if_true] at h0
  rcases h0 with ⟨h1, h2, h3, h4⟩ | ⟨h1, h2, h3, h4⟩
  · left
    intro x y d hr x0 x1 y0 y1
    have hd := (rightH_iff.1 hr).2.2.1
    have := box_pos (p := a 6) (q := a 7) (r := 2 * a 8) (d := d) (u := 2 * x) (v := 2 * y) (a := -1) (b := 2 * W - 1) (c := -1) (e := 2 * H - 1) hd ⟨by omega, x1⟩ ⟨by omega, y1⟩ (by grind) (by grind) (by grind) (by grind)
    simp only [undR, hr, if_true]
    grind
  · right
    intro x y d hr x0 x1 y0 y1
    have hd := (rightH_iff.1 hr).2.2.1
    have := box_neg (p := a 6) (q := a 7) (r := 2 * a 8) (d := d) (u := 2 * x) (v := 2 * y) (a := -1) (b := 2 * W - 1) (c := -1) (e := 2 * H - 1) hd ⟨by omega, x1⟩ ⟨by omega, y1⟩ (by grind) (by grind) (by grind) (by grind)
    simp only [undR, hr, if_true]
    grind
end Go.Proofs.YtmnnilkdaibgkaaGreat
