/- sample: images as a source: Levels, Channels, Size, Read. -/
import Derived.Test.YtahiaeaobbofbaaGreatSS4
set_option linter.unusedVariables false
namespace Go.Proofs.YtahiaeaobbofbaaGreat
open Go.RowKit
theorem Rd.dropk {w : World} {B b o : Nat} {xs : List Value} (h : Rd w B (some ⟨b, o, none⟩) xs) (k : Nat) : Rd w B (some ⟨b, o + k, none⟩) (xs.drop k) := fun i hi => by
  have hi' : k + i < xs.length := by simp at hi; omega
  obtain ⟨b', o', e, hb, hc⟩ := h (k + i) hi'
  injection e with e; injection e with e1 e2
  subst e1; subst e2
  exact ⟨b, o + k, rfl, hb, by rw [show o + k + i = o + (k + i) by omega, hc]; simp⟩
theorem ck_parts {W H C : Int} {n : Nat} (h : checkC W H C n = 0) : fitsC W H C = 0 ∧ (n : Int) = W * H * C := by
  unfold checkC at h
  split at h
  · omega
  · rename_i h1
    refine ⟨h, ?_⟩
    by_cases h2 : (n : Int) = W * H * C
    · exact h2
    · exact absurd ⟨h, h2⟩ h1
/-- Where a pixel's bytes stand. -/
theorem at_bd {W H C x y : Int} (hC : 1 ≤ C ∧ C ≤ 4) (hW : 1 ≤ W ∧ W ≤ 32768) (hH : 1 ≤ H ∧ H ≤ 32768) (hx : 0 ≤ x ∧ x < W) (hy : 0 ≤ y ∧ y < H) :
    (0 ≤ y * W ∧ y * W ≤ 1073741824) ∧ (0 ≤ y * W + x ∧ y * W + x ≤ 1073774592) ∧ (0 ≤ (y * W + x) * C ∧ (y * W + x) * C ≤ 4295098368) ∧ (y * W + x) * C + C ≤ W * H * C := by
  have e1 : 0 ≤ y * W := Int.mul_nonneg (by omega) (by omega)
  have e2 : y * W ≤ (H - 1) * W := Int.mul_le_mul_of_nonneg_right (by omega) (by omega)
  have e3 : (H - 1) * W ≤ 32767 * W := Int.mul_le_mul_of_nonneg_right (by omega) (by omega)
  have e4 : y * W + x + 1 ≤ W * H := by rw [Int.sub_mul, Int.one_mul, Int.mul_comm H W] at e2; omega
  have e5 : (y * W + x + 1) * C ≤ W * H * C := Int.mul_le_mul_of_nonneg_right e4 (by omega)
  rw [Int.add_mul, Int.one_mul] at e5
  have e6 : 0 ≤ (y * W + x) * C := Int.mul_nonneg (by omega) (by omega)
  have e7 : (y * W + x) * C ≤ (y * W + x) * 4 := Int.mul_le_mul_of_nonneg_left (by omega) (by omega)
  refine ⟨⟨e1, by omega⟩, ⟨by omega, by omega⟩, ⟨e6, by omega⟩, by omega⟩
/-- A pixel's bytes. -/
def pxB (m : Im) (x y : Int) : List Int := (m.px.drop ((y * m.W + x) * m.C).toNat).take m.C.toNat
end Go.Proofs.YtahiaeaobbofbaaGreat
