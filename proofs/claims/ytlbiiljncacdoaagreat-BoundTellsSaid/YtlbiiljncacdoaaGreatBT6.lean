/- The law BoundTells. -/
import Derived.Test.YtlbiiljncacdoaaGreatBT5
import Derived.Test.YtlbiiljncacdoaaGreatOX
import Derived.Test.YtlbiiljncacdoaaGreatKG
import Derived.Test.YtlbiiljncacdoaaGreatKH
set_option linter.unusedVariables false
namespace Go.Proofs.YtlbiiljncacdoaaGreat
open Go.RowKit
theorem exB_iff (k : Int) : exB k = true ↔ (k = 1 ∨ k = 2 ∨ k = 4 ∨ k = 6) := by unfold exB; exact decide_eq_true_iff
theorem wo_nn (k : Int) : 0 ≤ woX k ∧ 0 ≤ woY k := by
  have e1 : bdX 262144 262144 = 720896 := by decide
  have e2 : bdY 262144 = 163840 := by decide
  unfold woX woY
  rw [e1, e2]
  constructor
  · split
    · decide
    · split
      · decide
      · split <;> decide
  · split
    · decide
    · split
      · decide
      · split <;> decide
theorem bo_le (k : Int) (l : List Int) (W H : Int) : boX k l (xC k l W H) ≤ woX k ∧ boY k l (xC k l W H) ≤ woY k := by
  by_cases hz : xC k l W H = 0
  · rw [hz]
    obtain ⟨hk, _, hx⟩ := xC_zero hz
    by_cases h3 : k = 3
    · subst h3
      have hf := (rgL_bd (leC_zero.1 (show leC l W H = 0 from hx)).rg).f
      rw [show woX 3 = 393216000 by decide +kernel, show woY 3 = 393216000 by decide +kernel]
      show 12000 * cf l 2 ≤ _ ∧ 12000 * cf l 2 ≤ _
      omega
    · by_cases h5 : k = 5
      · subst h5
        obtain ⟨ha, hb, _, _⟩ := rg4_bd (shC_zero.1 (show shC l = 0 from hx)).2
        rw [show woX 5 = bdX 262144 262144 by decide +kernel, show woY 5 = bdY 262144 by decide +kernel]
        exact ⟨bdX_le ha hb, bdY_le hb⟩
      · have he : exB k = true := (exB_iff k).2 (by omega)
        have eX : boX k l 0 = 1 := by unfold boX; rw [if_neg (by simp), if_neg h3, if_neg h5]
        have eY : boY k l 0 = 1 := by unfold boY; rw [if_neg (by simp), if_neg h3, if_neg h5]
        rw [eX, eY]
        unfold woX woY
        rw [if_pos he, if_pos he]
        exact ⟨Int.le_refl _, Int.le_refl _⟩
  · have eX : boX k l (xC k l W H) = 0 := by unfold boX; rw [if_pos hz]
    have eY : boY k l (xC k l W H) = 0 := by unfold boY; rw [if_pos hz]
    rw [eX, eY]
    exact wo_nn k
theorem wo_cases (k : Int) : ((k = 1 ∨ k = 2 ∨ k = 4 ∨ k = 6) ∧ woX k = 1 ∧ woY k = 1 ∧ exB k = true) ∨ (k = 3 ∧ woX k = 393216000 ∧ woY k = 393216000 ∧ exB k = false) ∨ (k = 5 ∧ woX k = bdX 262144 262144 ∧ woY k = bdY 262144 ∧ exB k = false) ∨ ((k ≠ 1 ∧ k ≠ 2 ∧ k ≠ 3 ∧ k ≠ 4 ∧ k ≠ 5 ∧ k ≠ 6) ∧ woX k = 0 ∧ woY k = 0 ∧ exB k = false) := by
  by_cases he : exB k = true
  · left
    exact ⟨(exB_iff k).1 he, by unfold woX; rw [if_pos he], by unfold woY; rw [if_pos he], he⟩
  · right
    have hf : exB k = false := by simpa using he
    have hn := fun h => he ((exB_iff k).2 h)
    by_cases h3 : k = 3
    · left
      exact ⟨h3, by unfold woX; rw [if_neg he, if_pos h3], by unfold woY; rw [if_neg he, if_pos h3], hf⟩
    · right
      by_cases h5 : k = 5
      · left
        exact ⟨h5, by unfold woX; rw [if_neg he, if_neg h3, if_pos h5], by unfold woY; rw [if_neg he, if_neg h3, if_pos h5], hf⟩
      · right
        exact ⟨⟨fun h => hn (.inl h), fun h => hn (.inr (.inl h)), h3, fun h => hn (.inr (.inr (.inl h))), h5, fun h => hn (.inr (.inr (.inr h)))⟩, by unfold woX; rw [if_neg he, if_neg h3, if_neg h5], by unfold woY; rw [if_neg he, if_neg h3, if_neg h5], hf⟩
theorem lawBoundTells (cs0 cs1 : Array Value) (w : World) (h0 : Rv Tryz.prog w 31 cs0.toList) (h1 : Rv Tryz.prog w 22 cs1.toList) :
    Calls Tryz.prog 7 #[.agg cs0, .agg cs1] w fun e w' => e = .returned (.bool true) ∧ Below w.heap.size w w' := by
  obtain ⟨k, A, n, cp, l, e0, _, hl, hn, hcm, hok, hr⟩ := open_xform h0
  obtain rfl : cs0 = #[.int .i64 k, .slice A n cp] := by cases cs0; simp at e0; simp [e0]
  obtain ⟨W, H, rfl, hW, hH⟩ := open_size h1
  have hn63 : n ≤ 9223372036854775807 := by simp [maxLen] at hcm; omega
  obtain ⟨l1, l2⟩ := bo_le k l W H
  have hr' := fun (w' : World) (hb : Below w.heap.size w w') => ((hr.below hb).more hb.size : Rd w' w'.heap.size A (l.map (Value.int .i64)))
  exact walkBoundTells k A n cp W H (xC k l W H) (boX k l (xC k l W H)) (boY k l (xC k l W H)) (woX k) (woY k) (exB k) w
    (fun _ w' hb => bof25_any k l A n cp W H (xC k l W H) w' hl hn (hr' w' hb) (fun w'' hb' => xcheck_any k A n cp W H _ _ _ _ w'' ((newIs_any k l A n cp W H w' hl hn hcm (hr' w' hb)).nx hb')) (fun hz h3 => by subst h3; exact (xC_zero hz).2.2) (fun hz h5 => by subst h5; exact (xC_zero hz).2.2))
    (fun _ w' hb => rof25_any k l A n cp W H (xC k l W H) w' hl hn (hr' w' hb) (fun w'' hb' => rcheck24 k l A n cp W H w'' hl hn63 ((hr' w' hb).below hb') hb'.size hok) (fun hz h3 => by subst h3; exact (xC_zero hz).2.2) (fun hz h5 => by subst h5; exact (xC_zero hz).2.2))
    (fun w' => worst_any k w') (fun w' => exact_any k w') l1 l2 (wo_cases k)
end Go.Proofs.YtlbiiljncacdoaaGreat
