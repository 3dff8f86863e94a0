/- The law MeterWarps: the walk. -/
import Derived.Test.YtfkifghfaaeoiaaGreatMW1
set_option linter.unusedVariables false
namespace Go.Proofs.YtfkifghfaaeoiaaGreat
open Go.RowKit
set_option maxRecDepth 100000 in
set_option maxHeartbeats 8000000 in
theorem rcost_any (k : Int) (A : Option Addr) (sn cp : Nat) (W H kn n mo c0 c1 c2 c3 mi : Int) (w : World) (hk : 0 ≤ kn ∧ kn ≤ 3) (hn : kn = 3 → 1 ≤ n ∧ n ≤ 8) (hW : 1 ≤ W ∧ W ≤ 32768) (hH : 1 ≤ H ∧ H ≤ 32768) (hp : W * H ≤ 4194304) :
    Calls Tryz.prog 7 #[.agg (wrA k A sn cp W H kn n mo c0 c1 c2 c3 mi)] w fun e w' => e = .returned (.int .i64 (W * H * eaC kn n)) ∧ Below w.heap.size w w' := by
  have hL := (Lie.start w).alloc (wrA k A sn cp W H kn n mo c0 c1 c2 c3 mi) 33
  have hK : Bk (w.alloc (.cells (wrA k A sn cp W H kn n mo c0 c1 c2 c3 mi) 33)) w.heap.size 33 (wrA k A sn cp W H kn n mo c0 c1 c2 c3 mi) := hL.k 0 (by simp)
  obtain ⟨d0, d1, d2, d3, d4, d5, d6, d7, d8, d9, d10, d11⟩ := hK.cell12
  clear d0 d1 d6 d7 d8 d9 d10 d11
  obtain ⟨e0, e1⟩ := ea_bd hn
  have m0 : 1 * 1 ≤ W * H := Int.mul_le_mul hW.1 hH.1 (by omega) (by omega)
  have m1 := Int.mul_le_mul hp e1 (by omega) (by omega)
  have m2 : 0 ≤ W * H * eaC kn n := Int.mul_nonneg (by omega) (by omega)
  have eH : Hid (W * H * eaC kn n = W * H * eaC kn n) := rfl
  obtain ⟨q, hq⟩ : ∃ q, W * H * eaC kn n = q := ⟨_, rfl⟩
  have w2 : wrap64 (W * H * eaC kn n) = q := by rw [IntWalk.wrap64_in _ ⟨by omega, by omega⟩]; exact hq
  obtain ⟨p, hp'⟩ : ∃ p, W * H = p := ⟨_, rfl⟩
  have w1 : wrap64 (W * H) = p := by rw [IntWalk.wrap64_in _ ⟨by omega, by omega⟩]; exact hp'
  rw [hp'] at w2
  rw [hq]
  clear hq eH m0 m1 m2 hp' hp e0 e1 hW hH
  rcases (show kn = 0 ∨ kn = 1 ∨ kn = 2 ∨ kn = 3 by omega) with rfl | rfl | rfl | rfl
  · rw [show eaC 0 n = 1 from rfl, Int.mul_one] at w2
    clear hk hn
    obtain ⟨z, hz⟩ : ∃ z, wrap64 (wrap64 (4 * n) * n) = z := ⟨_, rfl⟩
    have hbK := hL.alloc #[.int .i64 1, .int .i64 4, .int .i64 16, .int .i64 z] 3
    go_enter Tryz.func7, Tryz.ntmps7
    go_wp2_with fail
    go_returns
    exact ⟨by rw [← w2]; rfl, hbK.bel⟩
  · rw [show eaC 1 n = 4 from rfl] at w2
    clear hk hn
    obtain ⟨z, hz⟩ : ∃ z, wrap64 (wrap64 (4 * n) * n) = z := ⟨_, rfl⟩
    have hbK := hL.alloc #[.int .i64 1, .int .i64 4, .int .i64 16, .int .i64 z] 3
    go_enter Tryz.func7, Tryz.ntmps7
    go_wp2_with fail
    go_returns
    exact ⟨by rw [← w2]; rfl, hbK.bel⟩
  · rw [show eaC 2 n = 16 from rfl] at w2
    clear hk hn
    obtain ⟨z, hz⟩ : ∃ z, wrap64 (wrap64 (4 * n) * n) = z := ⟨_, rfl⟩
    have hbK := hL.alloc #[.int .i64 1, .int .i64 4, .int .i64 16, .int .i64 z] 3
    go_enter Tryz.func7, Tryz.ntmps7
    go_wp2_with fail
    go_returns
    exact ⟨by rw [← w2]; rfl, hbK.bel⟩
  · rw [show eaC 3 n = 4 * n * n from rfl] at w2
    obtain ⟨n0, n1⟩ := hn rfl
    have k1 : 1 * 1 ≤ n * n := Int.mul_le_mul n0 n0 (by omega) (by omega)
    have k2 : n * n ≤ 8 * 8 := Int.mul_le_mul n1 n1 (by omega) (by omega)
    obtain ⟨z, hz⟩ : ∃ z, 4 * n * n = z := ⟨_, rfl⟩
    have hz2 : wrap64 (4 * n * n) = z := by rw [IntWalk.wrap64_in _ ⟨by rw [Int.mul_assoc]; omega, by rw [Int.mul_assoc]; omega⟩]; exact hz
    rw [hz] at w2
    clear hk hn hz k1 k2
    have hbK := hL.alloc #[.int .i64 1, .int .i64 4, .int .i64 16, .int .i64 z] 3
    go_enter Tryz.func7, Tryz.ntmps7
    go_wp2_with fail
    go_returns
    exact ⟨by rw [← w2]; rfl, hbK.bel⟩
end Go.Proofs.YtfkifghfaaeoiaaGreat
