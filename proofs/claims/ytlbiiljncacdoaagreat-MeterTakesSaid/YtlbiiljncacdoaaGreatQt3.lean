/- A quotient as a place. -/
import Derived.Test.YtlbiiljncacdoaaGreatQt2
set_option linter.unusedVariables false
namespace Go.Proofs.YtlbiiljncacdoaaGreat
open Go.RowKit
theorem fq_wd {a b : Int} (ha : Wq a) (hb : b ≠ 0) : Wd (fq a b) := by
  obtain ⟨f1, f2, f3, f4, f5⟩ := fq_facts (a := a) hb
  obtain ⟨q1, q2⟩ := q_room ha hb
  have e1 := Int.emod_nonneg (ab a) (by omega : ab b ≠ 0)
  unfold Wd
  cases h : (!(decide (hi6 a < 0) == decide (b < 0)))
  · rw [(f5 h).1]; omega
  · rcases Int.lt_or_eq_of_le e1 with hr | hr
    · rw [(f3 ⟨h, hr⟩).1]; omega
    · rw [(f4 ⟨h, hr.symm⟩).1]; omega
/-- The place that a quotient is. -/
def plc (a b : Int) : Int := cutF (fq (a * 65536) b)
theorem qplace_0 (a : Int) (w : World) : Calls Tryz.prog 219 #[WV a, .int .i64 0] w fun e w' => e = .returned (.tuple #[.int .i64 0, .bool false]) ∧ Below w.heap.size w w' := by
  go_enter Tryz.func219, Tryz.ntmps219
  go_wp2_with fail
  go_returns
  exact ⟨rfl, by go_grown⟩
set_option maxRecDepth 100000 in
set_option maxHeartbeats 4000000 in
theorem qplace_any (a b : Int) (w : World) (ha : Wq (a * 65536)) (hb : b ≠ 0) (hb2 : J64 b) :
    Calls Tryz.prog 219 #[WV a, .int .i64 b] w fun e w' => e = .returned (.tuple #[.int .i64 (plc a b), .bool true]) ∧ Below w.heap.size w w' := by
  have hS := fun w' => shl16_any a w' (by unfold Wq at ha; unfold Wd; omega)
  have hW := fun w' => qwide_any (a * 65536) b w' ha hb hb2
  have hC := fun w' => qcut_any (fq (a * 65536) b) w' (fq_wd ha hb)
  have HP := Lib.hid (show plc a b = cutF (fq (a * 65536) b) from rfl)
  have hb0 : (b == 0) = false := beq_eq_false_iff_ne.2 hb
  have hL := (Lie.start w).alloc (wdA a) 261
  generalize fr (a * 65536) b = r at *
  generalize fq (a * 65536) b = q at *
  generalize a * 65536 = s at *
  clear ha hb hb2
  go_enter Tryz.func219, Tryz.ntmps219
  go_wp2_with (first
    | (go_at_call 246; (with_reducible refine (hS _).mono ?_); rintro e w1 ⟨rfl, hb1⟩; have hL1 := (hL.nx hb1).alloc (wdA s) 261)
    | (go_at_call 248; (with_reducible refine (hW _).mono ?_); rintro e w2 ⟨rfl, hb2⟩; have hL2 := (hL1.nx hb2).alloc (wdA q) 261)
    | (go_at_call 249; (with_reducible refine (hC _).mono ?_); rintro e w3 ⟨rfl, hb3⟩; have hL3 := hL2.nx hb3))
  go_returns
  exact ⟨by rw [HP.out]; rfl, hL3.bel⟩
end Go.Proofs.YtlbiiljncacdoaaGreat
