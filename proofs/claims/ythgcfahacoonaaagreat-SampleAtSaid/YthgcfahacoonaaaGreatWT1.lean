/- weight: split numbers, linear and cubic weights. -/
import Derived.Test.YthgcfahacoonaaaGreatRowG
set_option linter.unusedVariables false
namespace Go.Proofs.YthgcfahacoonaaaGreat
open Go.RowKit
theorem and16 (u : Int) (h0 : -9223372036854775808 ≤ u) (h1 : u ≤ 9223372036854775807) : bits .and .i64 u 65535 = u % 65536 := by
  have e : bits .and .i64 u 65535 = IntKind.i64.wrap (((BitVec.ofInt 64 u &&& BitVec.ofInt 64 65535).toNat : Nat) : Int) := rfl
  rw [e, BitVec.toNat_and]
  have e1 : (BitVec.ofInt 64 65535).toNat = 2 ^ 16 - 1 := by decide
  rw [e1, Nat.and_two_pow_sub_one_eq_mod, BitVec.toNat_ofInt]
  have e2 : (((u % ((2 ^ 64 : Nat) : Int)).toNat % 2 ^ 16 : Nat) : Int) = u % 65536 := by
    have h2 := Int.emod_nonneg u (show (18446744073709551616 : Int) ≠ 0 by omega)
    have h3 : ((u % ((2 ^ 64 : Nat) : Int)).toNat : Int) = u % 18446744073709551616 := by
      rw [show ((2 ^ 64 : Nat) : Int) = 18446744073709551616 from rfl]; omega
    rw [Int.natCast_emod, h3]
    show u % 18446744073709551616 % ((2 ^ 16 : Nat) : Int) = _
    rw [show ((2 ^ 16 : Nat) : Int) = 65536 from rfl]
    omega
  rw [e2]
  exact IntWalk.i64_in _ ⟨by omega, by omega⟩
theorem shr16w (x : Int) (s : Nat) (hs : s = 16) : x >>> s = x / 65536 := by
  subst hs; rw [Int.shiftRight_eq_div_pow]; rfl
theorem wsplit_any (u : Int) (w : World) (h0 : -9223372036854775808 ≤ u) (h1 : u ≤ 9223372036854775807) : Calls Tryz.prog 105 #[.int .i64 u] w fun e w' => e = .returned (.tuple #[.int .i64 (u / 65536), .int .i64 (u % 65536)]) ∧ w = w' := by
  have ha := and16 u h0 h1
  go_enter Tryz.func105, Tryz.ntmps105
  go_wp2_with fail
  go_returns
  exact ⟨by first | rfl | (rw [shr16w _ _ rfl]), rfl⟩
/-- The polynomials. -/
def cub (i : Nat) (t : Int) : Int := match i with
  | 0 => -(t * t * t) + 2 * 256 * (t * t) - 65536 * t
  | 1 => 3 * (t * t * t) - 5 * 256 * (t * t) + 2 * 16777216
  | 2 => -3 * (t * t * t) + 4 * 256 * (t * t) + 65536 * t
  | _ => t * t * t - 256 * (t * t)
end Go.Proofs.YthgcfahacoonaaaGreat
