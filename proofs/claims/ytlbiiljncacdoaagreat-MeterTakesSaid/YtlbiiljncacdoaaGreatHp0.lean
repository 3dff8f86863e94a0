/- A map of layer 18 by nine numbers is the same map: plain. -/
import Derived.Test.YtlbiiljncacdoaaGreatAf1
set_option linter.unusedVariables false
namespace Go.Proofs.YtlbiiljncacdoaaGreat
open Go.RowKit
def nine (l : List Int) : List Int := l ++ [0, 0, 65536]
theorem nine_lo {l : List Int} (hl : l.length = 6) (i : Nat) (hi : i < 6) : (nine l).getD i 0 = l.getD i 0 := by
  unfold nine
  simp [List.getD_eq_getElem?_getD, List.getElem?_append_left (show i < l.length by omega)]
theorem nine_6 {l : List Int} (hl : l.length = 6) : (nine l).getD 6 0 = 0 := by
  unfold nine; simp [List.getD_eq_getElem?_getD, hl]
theorem nine_7 {l : List Int} (hl : l.length = 6) : (nine l).getD 7 0 = 0 := by
  unfold nine; simp [List.getD_eq_getElem?_getD, hl]
theorem nine_8 {l : List Int} (hl : l.length = 6) : (nine l).getD 8 0 = 65536 := by
  unfold nine; simp [List.getD_eq_getElem?_getD, hl]
theorem nine_len {l : List Int} (hl : l.length = 6) : (nine l).length = 9 := by simp [nine, hl]
theorem nine_rg {l : List Int} (hl : l.length = 6) : rgB (nine l) = rg6 l := by
  rw [Bool.eq_iff_iff, rgB_iff, rg6_iff]
  constructor
  · intro h i hi
    have := h i (by omega)
    rwa [nine_lo hl i hi] at this
  · intro h i hi
    by_cases h6 : i < 6
    · rw [nine_lo hl i h6]; exact h i h6
    · have h3 : i = 6 ∨ i = 7 ∨ i = 8 := by omega
      rcases h3 with rfl | rfl | rfl
      · rw [nine_6 hl]; rfl
      · rw [nine_7 hl]; rfl
      · rw [nine_8 hl]; rfl
/-- The columns' and the rows' numbers. -/
def afU (l : List Int) : Nat → Int
  | 0 => 65536 * cf l 4
  | 1 => -65536 * cf l 1
  | 2 => cf l 1 * cf l 5 - cf l 4 * cf l 2
  | 3 => -65536 * cf l 3
  | 4 => 65536 * cf l 0
  | 5 => cf l 3 * cf l 2 - cf l 0 * cf l 5
  | _ => dtA l
theorem nine_ad {l : List Int} (hl : l.length = 6) : adK (cf (nine l)) 9 0 = afU l 0 ∧ adK (cf (nine l)) 9 1 = afU l 1 ∧ adK (cf (nine l)) 9 2 = afU l 2 ∧ adK (cf (nine l)) 9 3 = afU l 3 ∧ adK (cf (nine l)) 9 4 = afU l 4 ∧ adK (cf (nine l)) 9 5 = afU l 5 ∧
    adK (cf (nine l)) 9 6 = 0 ∧ adK (cf (nine l)) 9 7 = 0 ∧ adK (cf (nine l)) 9 8 = dtA l := by
  have e0 : cf (nine l) 0 = cf l 0 := nine_lo hl 0 (by decide)
  have e1 : cf (nine l) 1 = cf l 1 := nine_lo hl 1 (by decide)
  have e2 : cf (nine l) 2 = cf l 2 := nine_lo hl 2 (by decide)
  have e3 : cf (nine l) 3 = cf l 3 := nine_lo hl 3 (by decide)
  have e4 : cf (nine l) 4 = cf l 4 := nine_lo hl 4 (by decide)
  have e5 : cf (nine l) 5 = cf l 5 := nine_lo hl 5 (by decide)
  have e6 : cf (nine l) 6 = 0 := nine_6 hl
  have e7 : cf (nine l) 7 = 0 := nine_7 hl
  have e8 : cf (nine l) 8 = 65536 := nine_8 hl
  simp only [ad_0, ad_1, ad_2, ad_3, ad_4, ad_5, ad_6, ad_7, ad_8, e0, e1, e2, e3, e4, e5, e6, e7, e8, afU, dtA]
  have c1 := Int.mul_comm (cf l 2) (cf l 4)
  have c2 := Int.mul_comm (cf l 2) (cf l 3)
  refine ⟨?_, ?_, ?_, ?_, ?_, ?_, ?_, ?_, ?_⟩ <;> first | trivial | omega
theorem nine_det {l : List Int} (hl : l.length = 6) : detS (cf (nine l)) 3 = 65536 * dtA l := by
  have e0 : cf (nine l) 0 = cf l 0 := nine_lo hl 0 (by decide)
  have e1 : cf (nine l) 1 = cf l 1 := nine_lo hl 1 (by decide)
  have e2 : cf (nine l) 2 = cf l 2 := nine_lo hl 2 (by decide)
  have e3 : cf (nine l) 3 = cf l 3 := nine_lo hl 3 (by decide)
  have e4 : cf (nine l) 4 = cf l 4 := nine_lo hl 4 (by decide)
  have e5 : cf (nine l) 5 = cf l 5 := nine_lo hl 5 (by decide)
  have e6 : cf (nine l) 6 = 0 := nine_6 hl
  have e7 : cf (nine l) 7 = 0 := nine_7 hl
  have e8 : cf (nine l) 8 = 65536 := nine_8 hl
  have h : detS (cf (nine l)) 3 = 0 + cof (cf (nine l)) 0 0 * cf (nine l) 0 + cof (cf (nine l)) 0 1 * cf (nine l) 1 + cof (cf (nine l)) 0 2 * cf (nine l) 2 := rfl
  have h0 : cof (cf (nine l)) 0 0 = cf (nine l) 4 * cf (nine l) 8 - cf (nine l) 5 * cf (nine l) 7 := rfl
  have h1 : cof (cf (nine l)) 0 1 = cf (nine l) 5 * cf (nine l) 6 - cf (nine l) 3 * cf (nine l) 8 := rfl
  have h2 : cof (cf (nine l)) 0 2 = cf (nine l) 3 * cf (nine l) 7 - cf (nine l) 4 * cf (nine l) 6 := rfl
  rw [h, h0, h1, h2, e0, e1, e2, e3, e4, e5, e6, e7, e8]
  unfold dtA
  simp only [Int.mul_zero, Int.zero_mul, Int.sub_zero, Int.zero_sub, Int.add_zero, Int.zero_add, Int.neg_mul]
  have r1 : cf l 4 * 65536 * cf l 0 = 65536 * (cf l 0 * cf l 4) := by rw [Int.mul_comm (cf l 4), Int.mul_assoc, Int.mul_comm (cf l 4)]
  have r2 : cf l 3 * 65536 * cf l 1 = 65536 * (cf l 1 * cf l 3) := by rw [Int.mul_comm (cf l 3), Int.mul_assoc, Int.mul_comm (cf l 3)]
  omega
theorem nine_und {l : List Int} (hl : l.length = 6) (x y d : Int) : undR (adK (cf (nine l)) 9) x y d = if rightH x y d = true then dtA l * d else 0 := by
  obtain ⟨_, _, _, _, _, _, h6, h7, h8⟩ := nine_ad hl
  unfold undR
  rw [h6, h7, h8]
  split <;> omega
theorem nine_sg {l : List Int} (hl : l.length = 6) {W H : Int} (hW : 1 ≤ W ∧ W ≤ 32768) (hH : 1 ≤ H ∧ H ≤ 32768) : sgH (adK (cf (nine l)) 9) W H = decide (dtA l ≠ 0) := by
  have r1 : rightH (-1) (-1) 2 = true := by decide
  have r2 : rightH (2 * W - 1) (-1) 2 = true := by rw [rightH_iff]; omega
  have r3 : rightH (-1) (2 * H - 1) 2 = true := by rw [rightH_iff]; omega
  have r4 : rightH (2 * W - 1) (2 * H - 1) 2 = true := by rw [rightH_iff]; omega
  unfold sgH
  rw [nine_und hl, nine_und hl, nine_und hl, nine_und hl, if_pos r1, if_pos r2, if_pos r3, if_pos r4, Bool.eq_iff_iff]
  unfold mn4 mx4
  simp only [Bool.or_eq_true, decide_eq_true_eq]
  omega
/-- What New says of the nine numbers. -/
theorem nine_new {l : List Int} (hl : l.length = 6) (W H : Int) : newC (nine l) W H = if rg6 l = false then 11 else if szH W H = false then 30 else if dtA l = 0 then 40 else 0 := by
  have hd := nine_det hl
  unfold newC rngC
  rw [nine_rg hl, if_neg (show ¬ (nine l).length ≠ 9 by rw [nine_len hl]; simp)]
  cases h1 : rg6 l
  · simp
  · cases h2 : szH W H
    · simp
    · have hz := szH_iff.1 h2
      rw [nine_sg hl hz.1 hz.2, hd]
      by_cases h3 : dtA l = 0
      · simp [h3]
      · have : ¬ 65536 * dtA l = 0 := by omega
        simp [h3, this]
theorem afC_six {l : List Int} (hl : l.length = 6) : afC l = if rg6 l = false then 11 else if dtA l = 0 then 40 else 0 := by
  unfold afC
  rw [if_neg (show ¬ l.length ≠ 6 by rw [hl]; simp)]
  cases h1 : rg6 l <;> simp
/-- Both answers. -/
def afE (x y d : Int) : Int := if rightH x y d = true then 0 else 11
def afX (l : List Int) (x y d : Int) : Int := if rightH x y d = true then plc (smR (afU l 0) (afU l 1) (afU l 2) x y d) (dtA l * d) else 0
def afY (l : List Int) (x y d : Int) : Int := if rightH x y d = true then plc (smR (afU l 3) (afU l 4) (afU l 5) x y d) (dtA l * d) else 0
theorem nine_at {l : List Int} (hl : l.length = 6) (h0 : dtA l ≠ 0) (x y d : Int) : atX (adK (cf (nine l)) 9) x y d = afX l x y d ∧ atY (adK (cf (nine l)) 9) x y d = afY l x y d ∧ atE (adK (cf (nine l)) 9) x y d = afE x y d := by
  obtain ⟨a0, a1, a2, a3, a4, a5, _, _, _⟩ := nine_ad hl
  unfold atX atY atE afX afY afE
  rw [nine_und hl, a0, a1, a2, a3, a4, a5]
  by_cases hp : rightH x y d = true
  · have hd : ¬ dtA l * d = 0 := by
      have := (rightH_iff.1 hp).2.2
      rw [Int.mul_eq_zero]; omega
    simp [hp, hd]
  · simp [hp]
theorem afU_ok {l : List Int} (h : AfOk l) : LnOk (afU l 0) (afU l 1) (afU l 2) ∧ LnOk (afU l 3) (afU l 4) (afU l 5) ∧ -562949953421312 ≤ dtA l ∧ dtA l ≤ 562949953421312 := by
  have b0 := h.bd 0 (by decide)
  have b1 := h.bd 1 (by decide)
  have b3 := h.bd 3 (by decide)
  have b4 := h.bd 4 (by decide)
  have m0 : most 0 = 16777216 := rfl
  have m1 : most 1 = 16777216 := rfl
  have m3 : most 3 = 16777216 := rfl
  have m4 : most 4 = 16777216 := rfl
  have p1 := h.prod 1 5 (by decide) (by decide) 36028797018963968 (by decide)
  have p2 := h.prod 4 2 (by decide) (by decide) 36028797018963968 (by decide)
  have p3 := h.prod 3 2 (by decide) (by decide) 36028797018963968 (by decide)
  have p4 := h.prod 0 5 (by decide) (by decide) 36028797018963968 (by decide)
  have p5 := h.prod 0 4 (by decide) (by decide) 281474976710656 (by decide)
  have p6 := h.prod 1 3 (by decide) (by decide) 281474976710656 (by decide)
  refine ⟨⟨?_, ?_, ?_, ?_, ?_, ?_⟩, ⟨?_, ?_, ?_, ?_, ?_, ?_⟩, ?_, ?_⟩ <;> simp only [afU, dtA] <;> omega
end Go.Proofs.YtlbiiljncacdoaaGreat
