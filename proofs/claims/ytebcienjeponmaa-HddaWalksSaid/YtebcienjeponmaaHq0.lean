/- The reference's homographies and the program's: one and the same numbers, plain. -/
import Derived.Test.YtebcienjeponmaaHm7
import Derived.Test.YtebcienjeponmaaBig15
set_option linter.unusedVariables false
namespace Go.Proofs.Ytebcienjeponmaa
open Go.RowKit
theorem flo_fq (x y : Int) : flo x y = fq x y := by
  unfold flo fq
  by_cases h : 0 < y
  · rw [if_pos h, if_neg (by omega)]
  · by_cases h2 : y < 0
    · rw [if_neg h, if_pos h2]
    · obtain rfl : y = 0 := by omega
      simp
theorem cut_eq (z : Int) : cutZ z = cutF z := by
  unfold cutZ cutF
  rw [show lim = 70368744177664 from rfl]
  split <;> split <;> omega
theorem plc_eq (x y : Int) : cutZ (flo (x * 65536) y) = plc x y := by rw [flo_fq, cut_eq]; rfl
theorem mn_00 (l : List Int) : minorZ l 0 0 = cf l 4 * cf l 8 - cf l 5 * cf l 7 := rfl
theorem mn_01 (l : List Int) : minorZ l 0 1 = cf l 3 * cf l 8 - cf l 5 * cf l 6 := rfl
theorem mn_02 (l : List Int) : minorZ l 0 2 = cf l 3 * cf l 7 - cf l 4 * cf l 6 := rfl
theorem mn_10 (l : List Int) : minorZ l 1 0 = cf l 1 * cf l 8 - cf l 2 * cf l 7 := rfl
theorem mn_11 (l : List Int) : minorZ l 1 1 = cf l 0 * cf l 8 - cf l 2 * cf l 6 := rfl
theorem mn_12 (l : List Int) : minorZ l 1 2 = cf l 0 * cf l 7 - cf l 1 * cf l 6 := rfl
theorem mn_20 (l : List Int) : minorZ l 2 0 = cf l 1 * cf l 5 - cf l 2 * cf l 4 := rfl
theorem mn_21 (l : List Int) : minorZ l 2 1 = cf l 0 * cf l 5 - cf l 2 * cf l 3 := rfl
theorem mn_22 (l : List Int) : minorZ l 2 2 = cf l 0 * cf l 4 - cf l 1 * cf l 3 := rfl
theorem az_0 (l : List Int) : (adjZ l).getD 0 0 = adK (cf l) 9 0 := by
  rw [ad_0, show (adjZ l).getD 0 0 = 1 * minorZ l 0 0 from rfl, mn_00]; omega
theorem az_1 (l : List Int) : (adjZ l).getD 1 0 = adK (cf l) 9 1 := by
  rw [ad_1, show (adjZ l).getD 1 0 = -1 * minorZ l 1 0 from rfl, mn_10, Int.mul_comm (cf l 7), Int.mul_comm (cf l 8)]; omega
theorem az_2 (l : List Int) : (adjZ l).getD 2 0 = adK (cf l) 9 2 := by
  rw [ad_2, show (adjZ l).getD 2 0 = 1 * minorZ l 2 0 from rfl, mn_20]; omega
theorem az_3 (l : List Int) : (adjZ l).getD 3 0 = adK (cf l) 9 3 := by
  rw [ad_3, show (adjZ l).getD 3 0 = -1 * minorZ l 0 1 from rfl, mn_01]; omega
theorem az_4 (l : List Int) : (adjZ l).getD 4 0 = adK (cf l) 9 4 := by
  rw [ad_4, show (adjZ l).getD 4 0 = 1 * minorZ l 1 1 from rfl, mn_11, Int.mul_comm (cf l 8), Int.mul_comm (cf l 6)]; omega
theorem az_5 (l : List Int) : (adjZ l).getD 5 0 = adK (cf l) 9 5 := by
  rw [ad_5, show (adjZ l).getD 5 0 = -1 * minorZ l 2 1 from rfl, mn_21]; omega
theorem az_6 (l : List Int) : (adjZ l).getD 6 0 = adK (cf l) 9 6 := by
  rw [ad_6, show (adjZ l).getD 6 0 = 1 * minorZ l 0 2 from rfl, mn_02]; omega
theorem az_7 (l : List Int) : (adjZ l).getD 7 0 = adK (cf l) 9 7 := by
  rw [ad_7, show (adjZ l).getD 7 0 = -1 * minorZ l 1 2 from rfl, mn_12, Int.mul_comm (cf l 6), Int.mul_comm (cf l 7)]; omega
theorem az_8 (l : List Int) : (adjZ l).getD 8 0 = adK (cf l) 9 8 := by
  rw [ad_8, show (adjZ l).getD 8 0 = 1 * minorZ l 2 2 from rfl, mn_22]; omega
theorem und_0 (l : List Int) (X Y D : Int) : undZ (adjZ l) 0 X Y D = smR (adK (cf l) 9 0) (adK (cf l) 9 1) (adK (cf l) 9 2) X Y D := by
  unfold undZ smR; rw [az_0, az_1, az_2]
theorem und_1 (l : List Int) (X Y D : Int) : undZ (adjZ l) 1 X Y D = smR (adK (cf l) 9 3) (adK (cf l) 9 4) (adK (cf l) 9 5) X Y D := by
  unfold undZ smR; rw [az_3, az_4, az_5]
theorem und_2 (l : List Int) (X Y D : Int) : undZ (adjZ l) 2 X Y D = smR (adK (cf l) 9 6) (adK (cf l) 9 7) (adK (cf l) 9 8) X Y D := by
  unfold undZ smR; rw [az_6, az_7, az_8]
theorem und_R (l : List Int) {X Y D : Int} (h : rightH X Y D = true) : undZ (adjZ l) 2 X Y D = undR (adK (cf l) 9) X Y D := by
  rw [und_2]; unfold undR smR; rw [if_pos h]
theorem det_eq (l : List Int) : detZ l = detS (cf l) 3 := by
  have h : detS (cf l) 3 = 0 + cof (cf l) 0 0 * cf l 0 + cof (cf l) 0 1 * cf l 1 + cof (cf l) 0 2 * cf l 2 := rfl
  have h0 : cof (cf l) 0 0 = cf l 4 * cf l 8 - cf l 5 * cf l 7 := rfl
  have h1 : cof (cf l) 0 1 = cf l 5 * cf l 6 - cf l 3 * cf l 8 := rfl
  have h2 : cof (cf l) 0 2 = cf l 3 * cf l 7 - cf l 4 * cf l 6 := rfl
  have g : detZ l = 0 + 1 * (cf l 0 * minorZ l 0 0) + -1 * (cf l 1 * minorZ l 0 1) + 1 * (cf l 2 * minorZ l 0 2) := rfl
  rw [g, mn_00, mn_01, mn_02, h, h0, h1, h2, Int.mul_comm (cf l 0), Int.mul_comm (cf l 1), Int.mul_comm (cf l 2), Int.sub_mul (cf l 3 * cf l 8), Int.sub_mul (cf l 5 * cf l 6)]
  omega
/-- What the reference says at a place. -/
theorem at_eq (l : List Int) {X Y D : Int} (h : rightH X Y D = true) : atZ l X Y D = if undR (adK (cf l) 9) X Y D = 0 then none else some (atX (adK (cf l) 9) X Y D, atY (adK (cf l) 9) X Y D) := by
  unfold atZ
  rw [und_R l h, und_0, und_1, plc_eq, plc_eq]
  by_cases h0 : undR (adK (cf l) 9) X Y D = 0
  · rw [if_pos h0, if_pos h0]
  · rw [if_neg h0, if_neg h0]
    unfold atX atY
    rw [if_pos ⟨h, h0⟩, if_pos ⟨h, h0⟩]
theorem all_rg {l : List Int} : allIn l = rgB l := by
  rw [Bool.eq_iff_iff, allIn_iff, rgB_iff]
  have hm : ∀ i, i < 9 → capL.getD i 0 = most i := by
    intro i hi
    have : i = 0 ∨ i = 1 ∨ i = 2 ∨ i = 3 ∨ i = 4 ∨ i = 5 ∨ i = 6 ∨ i = 7 ∨ i = 8 := by omega
    rcases this with rfl | rfl | rfl | rfl | rfl | rfl | rfl | rfl | rfl <;> rfl
  constructor
  · intro h i hi
    have := h i hi
    unfold InCap at this
    rw [hm i hi] at this
    exact inH_iff.2 this
  · intro h i hi
    have := inH_iff.1 (h i hi)
    unfold InCap
    rw [hm i hi]
    exact this
theorem sgn_4 (l : List Int) {W H : Int} (hW : 1 ≤ W ∧ W ≤ 32768) (hH : 1 ≤ H ∧ H ≤ 32768) : (sgnS (adjZ l) W H 4 = 4 ∨ sgnS (adjZ l) W H 4 = -4) ↔ sgH (adK (cf l) 9) W H = true := by
  have r1 : rightH (-1) (-1) 2 = true := by decide
  have r2 : rightH (2 * W - 1) (-1) 2 = true := by rw [rightH_iff]; omega
  have r3 : rightH (-1) (2 * H - 1) 2 = true := by rw [rightH_iff]; omega
  have r4 : rightH (2 * W - 1) (2 * H - 1) 2 = true := by rw [rightH_iff]; omega
  have g : sgnS (adjZ l) W H 4 = 0 + cmpI (undZ (adjZ l) 2 (-1) (-1) 2) 0 + cmpI (undZ (adjZ l) 2 (2 * W - 1) (-1) 2) 0 + cmpI (undZ (adjZ l) 2 (-1) (2 * H - 1) 2) 0 + cmpI (undZ (adjZ l) 2 (2 * W - 1) (2 * H - 1) 2) 0 := rfl
  rw [g, und_R l r1, und_R l r2, und_R l r3, und_R l r4]
  unfold sgH mn4 mx4
  simp only [Bool.or_eq_true, decide_eq_true_eq]
  generalize undR (adK (cf l) 9) (-1) (-1) 2 = u1
  generalize undR (adK (cf l) 9) (2 * W - 1) (-1) 2 = u2
  generalize undR (adK (cf l) 9) (-1) (2 * H - 1) 2 = u3
  generalize undR (adK (cf l) 9) (2 * W - 1) (2 * H - 1) 2 = u4
  have c : ∀ u : Int, (0 < u ∧ cmpI u 0 = 1) ∨ (u = 0 ∧ cmpI u 0 = 0) ∨ (u < 0 ∧ cmpI u 0 = -1) := by
    intro u
    unfold cmpI
    split
    · right; right; exact ⟨by assumption, rfl⟩
    · split
      · left; exact ⟨by assumption, rfl⟩
      · right; left; exact ⟨by omega, rfl⟩
  have c1 := c u1
  have c2 := c u2
  have c3 := c u3
  have c4 := c u4
  omega
/-- What is wrong: the reference and the program agree. -/
theorem chk_eq (l : List Int) (W H : Int) : chkZ l W H = newC l W H := by
  unfold chkZ newC rngC
  by_cases h1 : l.length ≠ 9
  · rw [if_pos h1, if_pos h1]; simp
  · rw [if_neg h1, if_neg h1, all_rg]
    cases h2 : rgB l
    · simp
    · have e : (W < 1 ∨ 32768 < W ∨ H < 1 ∨ 32768 < H) ↔ szH W H = false := by
        rw [← Bool.not_eq_true, szH_iff]; omega
      by_cases h3 : szH W H = false
      · rw [if_neg (by simp), if_pos (e.2 h3)]; simp [h3]
      · rw [if_neg (by simp), if_neg (fun h => h3 (e.1 h)), det_eq]
        have hz : szH W H = true := by simpa using h3
        by_cases h4 : detS (cf l) 3 = 0
        · simp [h4, hz]
        · have hs := sgn_4 l (szH_iff.1 hz).1 (szH_iff.1 hz).2
          by_cases h5 : sgH (adK (cf l) 9) W H = true
          · rw [if_neg h4, if_pos (hs.2 h5)]; simp [h4, hz, h5]
          · rw [if_neg h4, if_neg (fun h => h5 (hs.1 h))]; simp [h4, hz, h5]
end Go.Proofs.Ytebcienjeponmaa
