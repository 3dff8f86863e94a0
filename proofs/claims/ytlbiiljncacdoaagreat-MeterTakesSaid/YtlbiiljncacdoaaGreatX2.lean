/- shear: where a place comes from; and the reference. -/
import Derived.Test.YtlbiiljncacdoaaGreatX1
import Derived.Test.YtlbiiljncacdoaaGreatHa1
set_option linter.unusedVariables false
namespace Go.Proofs.YtlbiiljncacdoaaGreat
open Go.RowKit
/-- A number in parts of 65536, rounded to the nearer one. -/
def rn (z : Int) : Int := (z + 32768) / 65536
theorem rn_nr (z : Int) : nrF z 65536 = rn z := by unfold nrF rn; omega
theorem shr_16 (x : Int) (s : Nat) (hs : s = 16) : x >>> s = x / 65536 := by
  subst hs; rw [Int.shiftRight_eq_div_pow]; rfl
set_option maxRecDepth 100000 in
set_option maxHeartbeats 4000000 in
theorem across_any (g : Nat) (x y k : Int) (w : World) (hK : Bk w g 278 #[.int .i64 x, .int .i64 y]) (h1 : -1125899906842624 ≤ k * y) (h2 : k * y ≤ 1125899906842624) (h3 : -1099511627776 ≤ x) (h4 : x ≤ 1099511627776) :
    Calls Tryz.prog 236 #[.pointer (some ⟨g, 0, none⟩), .int .i64 k] w fun e w' => e = .returned (.tuple #[]) ∧ Bk w' g 278 #[.int .i64 (x + rn (k * y)), .int .i64 y] ∧ w.grownBy w' (some g) := by
  obtain ⟨c0, c1⟩ := hK.cell2
  have f0 := hK.frozen 0
  have hKd := (hK.set 0 (.int .i64 (x + (k * y + 32768) / 65536))).drew
  simp only [List.setIfInBounds_toArray, List.set_cons_zero] at hKd
  have hg : w.grownBy (w.setCell ⟨g, 0, none⟩ (.int .i64 (x + (k * y + 32768) / 65536))).drew (some g) := gb_drew (gb_setCell (World.grownBy.refl w _) (.inl rfl) _)
  clear hK
  go_enter Tryz.func236, Tryz.ntmps236
  go_still_tail 15, (by kernel_rfl)
  change wpList _ _ _ _ _ w.drew
  go_wp2_with fail
  go_end0
  exact ⟨rfl, hKd, hg⟩
set_option maxRecDepth 100000 in
set_option maxHeartbeats 4000000 in
theorem along_any (g : Nat) (x y k : Int) (w : World) (hK : Bk w g 278 #[.int .i64 x, .int .i64 y]) (h1 : -1125899906842624 ≤ k * x) (h2 : k * x ≤ 1125899906842624) (h3 : -1099511627776 ≤ y) (h4 : y ≤ 1099511627776) :
    Calls Tryz.prog 237 #[.pointer (some ⟨g, 0, none⟩), .int .i64 k] w fun e w' => e = .returned (.tuple #[]) ∧ Bk w' g 278 #[.int .i64 x, .int .i64 (y + rn (k * x))] ∧ w.grownBy w' (some g) := by
  obtain ⟨c0, c1⟩ := hK.cell2
  have f0 := hK.frozen 1
  have hKd := (hK.set 1 (.int .i64 (y + (k * x + 32768) / 65536))).drew
  simp only [List.setIfInBounds_toArray, List.set_cons_zero, List.set_cons_succ] at hKd
  have hg : w.grownBy (w.setCell ⟨g, 1, none⟩ (.int .i64 (y + (k * x + 32768) / 65536))).drew (some g) := gb_drew (gb_setCell (World.grownBy.refl w _) (.inl rfl) _)
  clear hK
  go_enter Tryz.func237, Tryz.ntmps237
  go_still_tail 15, (by kernel_rfl)
  change wpList _ _ _ _ _ w.drew
  go_wp2_with fail
  go_end0
  exact ⟨rfl, hKd, hg⟩
end Go.Proofs.YtlbiiljncacdoaaGreat
