/- Small laws on canvases. -/
import Derived.Test.YtpcjoalbhicccaaTh16
import Derived.Test.YtpcjoalbhicccaaTh14
import Derived.Test.YtpcjoalbhicccaaRoundT
set_option linter.unusedVariables false
namespace Go.Proofs.Ytpcjoalbhicccaa
open Go.RowKit Go.Shelf
theorem cut_bd {u v a b W H : Int} {C : Nat} (hW : 1 ≤ W ∧ W ≤ 32768) (hH : 1 ≤ H ∧ H ≤ 32768) (hC : C ≤ 4) (hu : 0 ≤ u - a ∧ u - a < W) (hv : 0 ≤ v - b ∧ v - b < H) :
    0 ≤ (v - b) * W ∧ (v - b) * W ≤ 1073741824 ∧ 0 ≤ ((v - b) * W + (u - a)) * (C : Int) ∧ ((v - b) * W + (u - a)) * (C : Int) ≤ 4295098368 ∧ ((v - b) * W + (u - a)) * (C : Int) + C ≤ W * H * C := by
  generalize v - b = q at *
  generalize u - a = r at *
  have m1 : 0 ≤ q * W := Int.mul_nonneg hv.1 (by omega)
  have m2 : q * W ≤ (H - 1) * W := Int.mul_le_mul_of_nonneg_right (by omega) (by omega)
  have m3 : (H - 1) * W ≤ 32767 * W := Int.mul_le_mul_of_nonneg_right (by omega) (by omega)
  have m4 : q * W + r + 1 ≤ W * H := by rw [Int.sub_mul, Int.one_mul, Int.mul_comm H W] at m2; omega
  have m5 : (q * W + r + 1) * (C : Int) ≤ W * H * C := Int.mul_le_mul_of_nonneg_right m4 (by omega)
  rw [Int.add_mul, Int.one_mul] at m5
  have m6 : 0 ≤ (q * W + r) * (C : Int) := Int.mul_nonneg (by omega) (by omega)
  have m7 : (q * W + r) * (C : Int) ≤ (q * W + r) * 4 := Int.mul_le_mul_of_nonneg_left (by omega) (by omega)
  refine ⟨m1, by omega, m6, by omega, m5⟩
theorem res_img_err {fn : Func} {p q : Tmp} (h : fn.results = #[.cell p 24, .cell q 32]) {tmps : Array Value} {w : World} {g g' : Nat} {W H C z : Int} {A : Option Addr} {n c : Nat} (hK : Bk w g 24 #[.int .i64 W, .int .i64 H, .int .i64 C, .slice A n c]) (hK' : Bk w g' 32 #[.int .i64 z])
    (hp : tmps.getD p undef = .pointer (some ⟨g, 0, none⟩)) (hq : tmps.getD q undef = .pointer (some ⟨g', 0, none⟩)) : (results fn tmps).run Try.prog w = .ok (.tuple #[.agg #[.int .i64 W, .int .i64 H, .int .i64 C, .slice A n c], .int .i64 z]) w := by
  have hp' : tmps[p]?.getD undef = .pointer (some ⟨g, 0, none⟩) := by simpa using hp
  have hq' : tmps[q]?.getD undef = .pointer (some ⟨g', 0, none⟩) := by simpa using hq
  have hc := hK'.cell1
  obtain ⟨h0, h1, h2, h3⟩ := hK.cell4
  simp [results, h, hp', hq', asAddr, go_sem, hc, h0, h1, h2, h3]
theorem can_cells {w : World} {g : Nat} {t : TypeId} {c0 c1 c2 c3 c4 c5 c6 c7 : Value} (h : Bk w g t #[c0, c1, c2, c3, c4, c5, c6, c7]) :
    w.cell? ⟨g, 0, none⟩ = some c0 ∧ w.cell? ⟨g, 1, none⟩ = some c1 ∧ w.cell? ⟨g, 2, none⟩ = some c2 ∧ w.cell? ⟨g, 3, none⟩ = some c3 ∧ w.cell? ⟨g, 4, none⟩ = some c4 ∧ w.cell? ⟨g, 5, none⟩ = some c5 ∧ w.cell? ⟨g, 6, none⟩ = some c6 ∧ w.cell? ⟨g, 7, none⟩ = some c7 :=
  ⟨by rw [h.cell]; rfl, by rw [h.cell]; rfl, by rw [h.cell]; rfl, by rw [h.cell]; rfl, by rw [h.cell]; rfl, by rw [h.cell]; rfl, by rw [h.cell]; rfl, by rw [h.cell]; rfl⟩
end Go.Proofs.Ytpcjoalbhicccaa
