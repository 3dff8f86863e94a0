/- Plain: quotients rounded to the nearer number, as bytes; weights with bytes. -/
import Derived.Test.YthgcfahacoonaaaGreatBase
set_option linter.unusedVariables false
namespace Go.Proofs.YthgcfahacoonaaaGreat
open Go.RowKit
def nearZ (a b : Int) : Int := (2 * a + b) / (2 * b)
theorem near_parts {a b : Int} (hb : 0 < b) : nearZ a b = if a % b < b - a % b then a / b else a / b + 1 := by
  have e := Int.mul_ediv_add_emod a b
  have e1 := Int.emod_nonneg a (show b ≠ 0 by omega)
  have e2 := Int.emod_lt_of_pos a hb
  have hu : ∀ q : Int, q * (2 * b) ≤ 2 * a + b → 2 * a + b < q * (2 * b) + 2 * b → nearZ a b = q := fun q h1 h2 => by
    unfold nearZ
    have h3 : q ≤ (2 * a + b) / (2 * b) := Int.le_ediv_of_mul_le (by omega) h1
    have h4 : (2 * a + b) / (2 * b) < q + 1 := Int.ediv_lt_of_lt_mul (by omega) (by rw [Int.add_mul]; omega)
    omega
  have hm : a / b * (2 * b) = 2 * (b * (a / b)) := by rw [Int.mul_comm (a / b), Int.mul_assoc]
  split
  · refine hu _ ?_ ?_ <;> rw [hm] <;> omega
  · refine hu _ ?_ ?_ <;> rw [Int.add_mul, hm] <;> omega
/-- A sum as a byte. -/
def byteZ (a b : Int) : Int := max 0 (min (nearZ a b) 255)
theorem byteZ_bd (a b : Int) : 0 ≤ byteZ a b ∧ byteZ a b ≤ 255 := by unfold byteZ; omega
/-- The first so many products, together. -/
def dotK (a b : List Int) : Nat → Int
  | 0 => 0
  | k + 1 => dotK a b k + a.getD k 0 * b.getD k 0
theorem dotK_bd {a b : List Int} {M : Int} (hM : 0 ≤ M) (h : ∀ k, -M ≤ a.getD k 0 * b.getD k 0 ∧ a.getD k 0 * b.getD k 0 ≤ M) : ∀ k : Nat, -(k * M) ≤ dotK a b k ∧ dotK a b k ≤ k * M
  | 0 => by simp [dotK]
  | k + 1 => by
    have ih := dotK_bd hM h k
    have hk := h k
    have e : ((k + 1 : Nat) : Int) * M = k * M + M := by rw [Int.natCast_add, Int.add_mul]; simp
    rw [e]
    simp only [dotK]
    omega
/-- A channel of several pixels. -/
def chan (Ls : List (List Int)) (k : Nat) : List Int := Ls.map fun l => l.getD k 0
theorem mulU_bd {a v M : Int} (hM : 0 ≤ M) (ha : -M ≤ a ∧ a ≤ M) (hv : 0 ≤ v ∧ v ≤ 255) : -(M * 255) ≤ a * v ∧ a * v ≤ M * 255 := by
  have h1 : a * v ≤ M * v := Int.mul_le_mul_of_nonneg_right ha.2 hv.1
  have h2 : -M * v ≤ a * v := Int.mul_le_mul_of_nonneg_right ha.1 hv.1
  have h3 : M * v ≤ M * 255 := Int.mul_le_mul_of_nonneg_left hv.2 hM
  rw [Int.neg_mul] at h2
  omega
end Go.Proofs.YthgcfahacoonaaaGreat
