/- weight: linear and cubic weights, walked. -/
import Derived.Test.YthgcfahacoonaaaGreatWT1
import Derived.Test.YthgcfahacoonaaaGreatLie
import Derived.Deep.QuietTactic
import Derived.BigQuiet
set_option linter.unusedVariables false
namespace Go.Proofs.YthgcfahacoonaaaGreat
open Go.RowKit
theorem w2_size : (Tryz.prog.info? 201).map (·.size) = some 2 := by kernel_rfl
theorem w4_size : (Tryz.prog.info? 30).map (·.size) = some 4 := by kernel_rfl
theorem wlin_any (f : Int) (w : World) (h0 : 0 ≤ f) (h1 : f ≤ 65536) : Calls Tryz.prog 144 #[.int .i64 f] w fun e w' => e = .returned (.tuple #[.agg #[.int .i64 (65536 - f), .int .i64 f], .int .i64 0]) ∧ Below w.heap.size w w' := by
  have hb := (Below.refl w.heap.size w).alloc (Nat.le_refl _) (.cells #[.int .i64 0, .int .i64 0] 201)
  have hK := Bk.new w 201 #[.int .i64 0, .int .i64 0]
  go_enter Tryz.func144, Tryz.ntmps144
  go_wp2_with (refine stB (ty := 201) (cells := #[.int .i64 (65536 - f), .int .i64 f]) rfl _ _ rfl hK rfl rfl w2_size rfl (by simp [Value.oneCell']) ?_; intro w' hK' hg' _)
  refine bodyPost_ret (res_cell_tmp rfl hK' rfl Tryz.underlying201 rfl w2_size) rfl ?_
  exact ⟨rfl, below_of_gb hb hg' (Nat.le_refl _) hb.size⟩
theorem cat_any (a b c d t : Int) (w : World) (ha : -5 ≤ a ∧ a ≤ 5) (hb : -5 ≤ b ∧ b ≤ 5) (hc : -5 ≤ c ∧ c ≤ 5) (hd : -5 ≤ d ∧ d ≤ 5) (h0 : 0 ≤ t) (h1 : t ≤ 256) : Calls Tryz.prog 227 #[.agg #[.int .i64 a, .int .i64 b, .int .i64 c, .int .i64 d], .int .i64 t] w fun e w' => e = .returned (.int .i64 (((a * t + b * 256) * t + c * 256 * 256) * t + d * 256 * 256 * 256)) ∧ Below w.heap.size w w' := by
  obtain ⟨ha0, ha1⟩ := ha
  obtain ⟨hb0, hb1⟩ := hb
  obtain ⟨hc0, hc1⟩ := hc
  obtain ⟨hd0, hd1⟩ := hd
  have m1 : -1280 ≤ a * t ∧ a * t ≤ 1280 := by
    have e1 : a * t ≤ 5 * t := Int.mul_le_mul_of_nonneg_right ha1 h0
    have e2 : -5 * t ≤ a * t := Int.mul_le_mul_of_nonneg_right ha0 h0
    omega
  obtain ⟨y, hy⟩ : ∃ y, a * t = y := ⟨_, rfl⟩
  rw [hy] at m1
  obtain ⟨m10, m11⟩ := m1
  have m2 : -655360 ≤ (y + b * 256) * t ∧ (y + b * 256) * t ≤ 655360 := by
    have e1 : (y + b * 256) * t ≤ 2560 * t := Int.mul_le_mul_of_nonneg_right (by omega) h0
    have e2 : -2560 * t ≤ (y + b * 256) * t := Int.mul_le_mul_of_nonneg_right (by omega) h0
    omega
  obtain ⟨z, hz⟩ : ∃ z, (y + b * 256) * t = z := ⟨_, rfl⟩
  rw [hz] at m2
  obtain ⟨m20, m21⟩ := m2
  have m3 : -251658240 ≤ (z + c * 256 * 256) * t ∧ (z + c * 256 * 256) * t ≤ 251658240 := by
    have e1 : (z + c * 256 * 256) * t ≤ 983040 * t := Int.mul_le_mul_of_nonneg_right (by omega) h0
    have e2 : -983040 * t ≤ (z + c * 256 * 256) * t := Int.mul_le_mul_of_nonneg_right (by omega) h0
    omega
  obtain ⟨x, hx⟩ : ∃ x, (z + c * 256 * 256) * t = x := ⟨_, rfl⟩
  rw [hx] at m3
  obtain ⟨m30, m31⟩ := m3
  have v1 : wrap64 (a * t) = y := by rw [hy]; exact IntWalk.wrap64_in _ ⟨by omega, by omega⟩
  have v2 : wrap64 ((y + b * 256) * t) = z := by rw [hz]; exact IntWalk.wrap64_in _ ⟨by omega, by omega⟩
  have v3 : wrap64 ((z + c * 256 * 256) * t) = x := by rw [hx]; exact IntWalk.wrap64_in _ ⟨by omega, by omega⟩
  rw [hy, hz, hx]
  clear hy hz hx
  go_enter Tryz.func227, Tryz.ntmps227
  go_wp2_with fail
  go_returns
  exact ⟨rfl, by go_grown⟩
end Go.Proofs.YthgcfahacoonaaaGreat
