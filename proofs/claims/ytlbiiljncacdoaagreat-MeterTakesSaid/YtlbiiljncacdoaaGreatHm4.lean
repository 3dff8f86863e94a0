/- Maps of straight lines: a line's numbers with a place's. -/
import Derived.Test.YtlbiiljncacdoaaGreatHm3
import Derived.Test.YtlbiiljncacdoaaGreatQLate
set_option linter.unusedVariables false
namespace Go.Proofs.YtlbiiljncacdoaaGreat
open Go.RowKit
theorem mulbd {a b A B : Int} (h1 : -A ≤ a) (h2 : a ≤ A) (h3 : -B ≤ b) (h4 : b ≤ B) : -(A * B) ≤ a * b ∧ a * b ≤ A * B := by
  have h := Nat.mul_le_mul (show a.natAbs ≤ A.toNat by omega) (show b.natAbs ≤ B.toNat by omega)
  rw [← Int.natAbs_mul] at h
  have e : ((A.toNat * B.toNat : Nat) : Int) = A * B := by rw [Int.natCast_mul, Int.toNat_of_nonneg (by omega), Int.toNat_of_nonneg (by omega)]
  omega
/-- A line's numbers. -/
structure LnOk (x y z : Int) : Prop where
  x0 : -1152921504606846976 ≤ x
  x1 : x ≤ 1152921504606846976
  y0 : -1152921504606846976 ≤ y
  y1 : y ≤ 1152921504606846976
  z0 : -1152921504606846976 ≤ z
  z1 : z ≤ 1152921504606846976
theorem sum_bd {x y z px py d : Int} (h : LnOk x y z) (hp : rightH px py d = true) : -1208925819614629174706176 ≤ x * px ∧ x * px ≤ 1208925819614629174706176 ∧ -1208925819614629174706176 ≤ y * py ∧ y * py ≤ 1208925819614629174706176 ∧ -18446744073709551616 ≤ z * d ∧ z * d ≤ 18446744073709551616 ∧ J64 px ∧ J64 py ∧ J64 d := by
  obtain ⟨⟨p0, p1⟩, ⟨p2, p3⟩, p4, p5⟩ := rightH_iff.1 hp
  have h1 := mulbd h.x0 h.x1 p0 p1
  have h2 := mulbd h.y0 h.y1 p2 p3
  have h3 := mulbd h.z0 h.z1 (show -16 ≤ d by omega) p5
  unfold J64
  omega
def smR (x y z px py d : Int) : Int := x * px + y * py + z * d
set_option maxRecDepth 100000 in
set_option maxHeartbeats 8000000 in
theorem hsum_any (x y z px py d : Int) (w : World) (h : LnOk x y z) (hp : rightH px py d = true) :
    Calls Tryz.prog 226 #[.agg (a3 x y z), .int .i64 px, .int .i64 py, .int .i64 d] w fun e w' => e = .returned (WV (smR x y z px py d)) ∧ Below w.heap.size w w' := by
  obtain ⟨b0, b1, b2, b3, b4, b5, j1, j2, j3⟩ := sum_bd h hp
  obtain ⟨x0, x1, y0, y1, z0, z1⟩ := h
  have hM1 := fun w' => wmul_any x px w' ⟨by omega, by omega⟩ j1
  have hM2 := fun w' => wmul_any y py w' ⟨by omega, by omega⟩ j2
  have hM3 := fun w' => wmul_any z d w' ⟨by omega, by omega⟩ j3
  have hA1 := fun w' => wadd_any (x * px) (y * py) w' (by unfold Wd; omega) (by unfold Wd; omega) (by unfold Wd; omega)
  have hA2 := fun w' => wadd_any (x * px + y * py) (z * d) w' (by unfold Wd; omega) (by unfold Wd; omega) (by unfold Wd; omega)
  have HS := Lib.hid (show smR x y z px py d = x * px + y * py + z * d from rfl)
  rw [← HS.out] at hA2
  clear b0 b1 b2 b3 b4 b5 j1 j2 j3 x0 x1 y0 y1 z0 z1 hp HS
  generalize smR x y z px py d = s at *
  generalize x * px + y * py = xy at *
  generalize x * px = xp at *
  generalize y * py = yp at *
  generalize z * d = zd at *
  have hL := ((Lie.start w).alloc (a3 x y z) 255).alloc #[.int .i64 0, .int .u64 0] 261
  simp only [World.size_alloc] at hL
  go_enter Tryz.func226, Tryz.ntmps226
  go_wp2_with fail
  refine (hM1 _).mono ?_
  rintro e w1 ⟨rfl, hb1⟩
  have hw1z : w.heap.size + 1 < w1.heap.size := by have := hb1.size; simp at this; omega
  replace hL := (hL.nx hb1).alloc (wdA xp) 261
  clear hb1
  go_upto_region 2 with fail
  generalize w1.alloc (.cells (wdA xp) 261) = w2 at *
  have k4 : Bk w2 w.heap.size 255 (a3 x y z) := hL.k 2 (by simp)
  have k9 : Bk w2 w1.heap.size 261 (wdA xp) := hL.k 0 (by simp)
  have q1 := fun (d : Nat) (os : Array Obj) => cell_regrown (k4.cell3).2.1 d os
  refine wp_region_quiet_late 7 8 (by kernel_rfl) (by kernel_rfl) ?_
  simp only [List.take_succ_cons, List.take_zero]
  repeat (first | (refine wpQuiet_load rfl _ _ rfl k9 rfl Tryz.underlying261 rfl wd_size ?_; simp only [Act.put, List.setIfInBounds_toArray, List.set_cons_zero, List.set_cons_succ]) | go_big_quiet_step ((first | with_reducible exact quiet_below (hM2 _) | with_reducible exact quiet_below (hA1 _))) | quiet_step ((first | with_reducible exact quiet_below (hM2 _) | with_reducible exact quiet_below (hA1 _))))
  refine wpQuiet_nil ?_
  intro _ hw'
  obtain ⟨⟨d9, os⟩, hw''⟩ := hw'
  subst hw''
  have hbx := below_regrown w2 d9 os
  generalize Go.Sort.grow (redrawn w2 d9) os = wx at *
  have hLx := hL.nx hbx
  have k9x : Bk wx w1.heap.size 261 (wdA xp) := hLx.k 0 (by simp)
  show wpAny _ _ _ _ 3 _ _ _
  refine wpAny_ext (i := 7) _ _ _ _ _ rfl rfl rfl rfl rfl rfl (by kernel_rfl) (by kernel_rfl) (by kernel_rfl) (fun _ _ _ h => h) ?_
  refine wpAny_ext (i := 8) _ _ _ _ _ rfl rfl rfl rfl rfl rfl (by kernel_rfl) (by kernel_rfl) (by kernel_rfl) (fun _ _ _ h => h) ?_
  refine wpAny_tail 9 rfl (by kernel_rfl) ?_
  simp only [Act.put, List.setIfInBounds_toArray, List.set_cons_zero, List.set_cons_succ, List.drop_succ_cons, List.drop_zero, List.getElem_toArray, List.getElem_cons_succ, List.getElem_cons_zero]
  go_wp2_with (refine stWd rfl _ _ rfl k9x rfl rfl rfl ?_; intro w4 k9y hg4 hs4)
  have hL4 := hLx.set hg4 k9y (by omega) (by intro q hq; simp at hq; rcases hq with rfl | rfl <;> simp <;> omega)
  have k44 : Bk w4 w.heap.size 255 (a3 x y z) := hL4.k 2 (by simp)
  simp only [Act.put]
  have q2 := fun (d : Nat) (os : Array Obj) => cell_regrown (k44.cell3).2.2 d os
  refine wp_region_quiet_late 7 8 (by kernel_rfl) (by kernel_rfl) ?_
  simp only [List.take_succ_cons, List.take_zero]
  repeat (first | (refine wpQuiet_load rfl _ _ rfl k9y rfl Tryz.underlying261 rfl wd_size ?_; simp only [Act.put, List.setIfInBounds_toArray, List.set_cons_zero, List.set_cons_succ]) | go_big_quiet_step ((first | with_reducible exact quiet_below (hM3 _) | with_reducible exact quiet_below (hA2 _))) | quiet_step ((first | with_reducible exact quiet_below (hM3 _) | with_reducible exact quiet_below (hA2 _))))
  refine wpQuiet_nil ?_
  intro _ hw'
  obtain ⟨⟨d9, os⟩, hw''⟩ := hw'
  subst hw''
  have hbx := below_regrown w4 d9 os
  generalize Go.Sort.grow (redrawn w4 d9) os = wy at *
  have hLy := hL4.nx hbx
  have k9yx : Bk wy w1.heap.size 261 (wdA xy) := hLy.k 0 (by simp)
  show wpAny _ _ _ _ 3 _ _ _
  refine wpAny_ext (i := 7) _ _ _ _ _ rfl rfl rfl rfl rfl rfl (by kernel_rfl) (by kernel_rfl) (by kernel_rfl) (fun _ _ _ h => h) ?_
  refine wpAny_ext (i := 8) _ _ _ _ _ rfl rfl rfl rfl rfl rfl (by kernel_rfl) (by kernel_rfl) (by kernel_rfl) (fun _ _ _ h => h) ?_
  refine wpAny_tail 9 rfl (by kernel_rfl) ?_
  simp only [Act.put, List.setIfInBounds_toArray, List.set_cons_zero, List.set_cons_succ, List.drop_succ_cons, List.drop_zero, List.getElem_toArray, List.getElem_cons_succ, List.getElem_cons_zero]
  have k8 : Bk wy (w.heap.size + 1) 261 #[.int .i64 0, .int .u64 0] := hLy.k 1 (by simp)
  go_upto_region 4 with (refine stWd rfl _ _ rfl k9yx rfl rfl rfl ?_; intro w6 k9z hg6 hs6)
  have hL6 := hLy.set hg6 k9z (by omega) (by intro q hq; simp at hq; rcases hq with rfl | rfl <;> simp <;> omega)
  have k86 : Bk w6 (w.heap.size + 1) 261 #[.int .i64 0, .int .u64 0] := hL6.k 1 (by simp)
  obtain ⟨e0, e1⟩ := k9z.cell2
  go_wp2_with (refine stWd rfl _ _ rfl k86 rfl rfl rfl ?_; intro w8 k88 hg8 hs8)
  refine bodyPost_ret (res_wd rfl k88 rfl) rfl ?_
  exact ⟨rfl, below_of_gb hL6.bel hg8 (by omega) hL6.sz⟩
end Go.Proofs.YtlbiiljncacdoaaGreat
