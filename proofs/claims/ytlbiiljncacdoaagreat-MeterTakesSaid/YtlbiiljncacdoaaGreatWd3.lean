/- Wide numbers: times a number; as numbers of 64 bits. -/
import Derived.Test.YtlbiiljncacdoaaGreatWd2
import Derived.Deep.RegionHeld3
import Derived.Deep.DeepCutAuto
import Derived.RegionTactic
import Derived.Deep.RegionWith
import Derived.Deep.QuietTactic
import Derived.BigQuiet
set_option linter.unusedVariables false
namespace Go.Proofs.YtlbiiljncacdoaaGreat
open Go.RowKit
theorem scale_facts {s y : Int} (hs : 0 ≤ s) (hy : 0 ≤ y) (hy2 : y < 18446744073709551616) (hp : Wd (s * y)) :
    hi6 (hi6 s * y) = 0 ∧ lo6 (hi6 s * y) = hi6 s * y ∧ lo6 (lo6 s * y) = lo6 (s * y) ∧ 0 ≤ hi6 s * y ∧ hi6 s * y < 9223372036854775808 ∧ hi6 (lo6 s * y) + hi6 s * y = hi6 (s * y) ∧ 0 ≤ hi6 (lo6 s * y) ∧ hi6 (s * y) < 9223372036854775808 ∧ 0 ≤ hi6 s ∧ 0 ≤ lo6 s ∧ lo6 s < 18446744073709551616 ∧ 0 ≤ s * y := by
  have e : s = hi6 s * 18446744073709551616 + lo6 s := by unfold hi6 lo6; omega
  have e2 : s * y = hi6 s * y * 18446744073709551616 + lo6 s * y := by
    rw [e, Int.add_mul, Int.mul_right_comm]
    rw [← e]
  have h1 : 0 ≤ hi6 s := by unfold hi6; omega
  have h2 : 0 ≤ lo6 s := by unfold lo6; omega
  have h2' : lo6 s < 18446744073709551616 := by unfold lo6; omega
  have h3 : 0 ≤ hi6 s * y := Int.mul_nonneg h1 hy
  have h4 : 0 ≤ lo6 s * y := Int.mul_nonneg h2 hy
  have h5 : 0 ≤ s * y := Int.mul_nonneg hs hy
  unfold Wd at hp
  generalize hi6 s * y = p at *
  generalize lo6 s * y = q at *
  generalize s * y = t at *
  refine ⟨?_, ?_, ?_, h3, ?_, ?_, ?_, ?_, h1, h2, h2', h5⟩
  all_goals (unfold hi6 lo6 at *; omega)
set_option maxRecDepth 100000 in
set_option maxHeartbeats 4000000 in
theorem wscale_any (a b : Int) (w : World) (ha : Wd a) (hb : J64 b) (hp : Wd (ab a * ab b)) :
    Calls Tryz.prog 274 #[WV a, .int .i64 b] w fun e w' => e = .returned (.tuple #[WV (a * b), .bool true]) ∧ Below w.heap.size w w' := by
  have hA := fun w' => apart_any a w' ha
  have hB := fun w' => wabs_any b w' hb
  obtain ⟨y0, y1⟩ := ab_bd hb
  have s0 : 0 ≤ ab a := by unfold ab; split <;> omega
  obtain ⟨f1, f2, f3, f4, f5, f6, f7, f8, f9, f10, f11, f12⟩ := scale_facts s0 y0 (by omega) hp
  have hM1 := fun w' => mul64_i f9 y0 (by unfold Wd at ha; unfold ab hi6; split <;> omega) (by omega) w'
  have hM2 := fun w' => mul64_i f10 y0 f11 (by omega) w'
  rw [f1, f2] at hM1
  rw [f3] at hM2
  have e4 := fun w => run_add' (c := 0) f7 f4 (by omega) (by omega) (s := hi6 (ab a * ab b)) (d := 0) (by omega) (by omega) w
  have hS := fun w' => (wsigned_any (ab a * ab b) (!(decide (a < 0) == decide (b < 0))) w' f12 hp).mono (R' := fun e w'' => e = .returned (.tuple #[WV (a * b), .bool true]) ∧ Below w'.heap.size w' w'') fun e w'' ⟨h1, h2⟩ => ⟨by rw [h1, ab_mul], h2⟩
  have hL := ((Lie.start w).alloc (wdA a) 261).alloc #[.int .i64 0, .int .u64 0] 261
  simp only [World.size_alloc] at hL
  clear ha hb hp y0 y1 f1 f2 f3 f4 f5 f6 f7 f8 f9 f10 f11 f12 s0
  generalize decide (a < 0) = da at *
  generalize decide (b < 0) = db at *
  generalize ab a * ab b = pp at *
  generalize hi6 (ab a) * ab b = mid at *
  generalize hi6 (lo6 (ab a) * ab b) = hh at *
  generalize ab b = xb at *
  generalize hr : a * b = r at *
  clear hr
  go_enter Tryz.func274, Tryz.ntmps274
  go_wp2_with fail
  refine (hA _).mono ?_
  rintro e w1 ⟨rfl, hb1⟩
  replace hL := (hL.nx hb1).alloc (szA (ab a)) 325
  go_wp2_with fail
  refine (hB _).mono ?_
  rintro e w2 ⟨rfl, rfl⟩
  go_wp2_with fail
  refine (hM1 _).mono ?_
  rintro e w2 ⟨rfl, rfl⟩
  go_wp2_with fail
  refine (hM2 _).mono ?_
  rintro e w2 ⟨rfl, rfl⟩
  go_wp2_with (first
    | (go_at_call 272; (with_reducible refine (hS _).mono ?_); rintro e w3 ⟨rfl, hb3⟩; have hL1 := hL.nx hb3; have k1 : Bk _ (w.heap.size + 1) 261 #[.int .i64 0, .int .u64 0] := hL1.k 1 (by simp))
    | (refine stWd rfl _ _ rfl k1 rfl rfl rfl ?_; intro w4 k2 hg2 hs2))
  refine bodyPost_ret (res_wd_tmp rfl k2 rfl) rfl ?_
  exact ⟨rfl, below_of_gb hL1.bel hg2 (by omega) hL1.sz⟩
end Go.Proofs.YtlbiiljncacdoaaGreat
