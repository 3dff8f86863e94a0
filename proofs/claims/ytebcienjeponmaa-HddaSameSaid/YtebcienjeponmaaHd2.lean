/- hdda: numbers that grow along a row. -/
import Derived.Test.YtebcienjeponmaaHd1
import Derived.Test.YtebcienjeponmaaQLate1
set_option linter.unusedVariables false
namespace Go.Proofs.Ytebcienjeponmaa
open Go.RowKit
/-- A number that grows by the same in each step. -/
abbrev axA (s k : Int) : Array Value := #[.int .i64 (hi6 s), .int .u64 (lo6 s), .int .i64 k]
theorem ax_info : (Try.prog.info? 91).map (·.size) = some 3 := by kernel_rfl
set_option maxRecDepth 100000 in
set_option maxHeartbeats 8000000 in
theorem begin_any (x y z px py : Int) (w : World) (h : LnOk x y z) (hp : rightH px py 1 = true) :
    Calls Try.prog 52 #[.agg (a3 x y z), .int .i64 px, .int .i64 py] w fun e w' => e = .returned (.agg (axA (smR x y z px py 1) x)) ∧ Below w.heap.size w w' := by
  obtain ⟨b0, b1, b2, b3, b4, b5, j1, j2, j3⟩ := sum_bd h hp
  rw [Int.mul_one] at b4 b5
  obtain ⟨x0, x1, y0, y1, z0, z1⟩ := h
  have hM1 := fun w' => wmul_any x px w' ⟨by omega, by omega⟩ j1
  have hM2 := fun w' => wmul_any y py w' ⟨by omega, by omega⟩ j2
  have hM3 := fun w' => wof_any z w' ⟨by omega, by omega⟩
  have hA1 := fun w' => wadd_any (x * px) (y * py) w' (by unfold Wd; omega) (by unfold Wd; omega) (by unfold Wd; omega)
  have hA2 := fun w' => wadd_any (x * px + y * py) z w' (by unfold Wd; omega) (by unfold Wd; omega) (by unfold Wd; omega)
  have HS := Lib.hid (show smR x y z px py 1 = x * px + y * py + z by unfold smR; rw [Int.mul_one])
  rw [← HS.out] at hA2
  clear b0 b1 b2 b3 b4 b5 j1 j2 j3 x0 x1 y0 y1 z0 z1 hp HS
  generalize smR x y z px py 1 = s at *
  generalize x * px + y * py = xy at *
  generalize x * px = xp at *
  generalize y * py = yp at *
  have hL := ((Lie.start w).alloc (a3 x y z) 31).alloc #[.int .i64 0, .int .u64 0, .int .i64 0] 91
  simp only [World.size_alloc] at hL
  go_enter Try.func52, Try.ntmps52
  go_wp2_with fail
  refine (hM1 _).mono ?_
  rintro e w1 ⟨rfl, hb1⟩
  have hw1z : w.heap.size + 1 < w1.heap.size := by have := hb1.size; simp at this; omega
  replace hL := (hL.nx hb1).alloc (wdA xp) 84
  clear hb1
  go_upto_region 2 with fail
  generalize w1.alloc (.cells (wdA xp) 84) = w2 at *
  have k4 : Bk w2 w.heap.size 31 (a3 x y z) := hL.k 2 (by simp)
  have k9 : Bk w2 w1.heap.size 84 (wdA xp) := hL.k 0 (by simp)
  have q1 := fun (d : Nat) (os : Array Obj) => cell_regrown (k4.cell3).2.1 d os
  refine wp_region_quiet_late 7 8 (by kernel_rfl) (by kernel_rfl) ?_
  simp only [List.take_succ_cons, List.take_zero]
  repeat (first | (refine wpQuiet_load rfl _ _ rfl k9 rfl Try.underlying84 rfl wd_size ?_; simp only [Act.put, List.setIfInBounds_toArray, List.set_cons_zero, List.set_cons_succ]) | go_big_quiet_step ((first | with_reducible exact quiet_below (hM2 _) | with_reducible exact quiet_below (hA1 _))) | quiet_step ((first | with_reducible exact quiet_below (hM2 _) | with_reducible exact quiet_below (hA1 _))))
  refine wpQuiet_nil ?_
  intro _ hw'
  obtain ⟨⟨d9, os⟩, hw''⟩ := hw'
  subst hw''
  have hbx := below_regrown w2 d9 os
  generalize Go.Sort.grow (redrawn w2 d9) os = wx at *
  have hLx := hL.nx hbx
  have k9x : Bk wx w1.heap.size 84 (wdA xp) := hLx.k 0 (by simp)
  show wpAny _ _ _ _ 3 _ _ _
  refine wpAny_ext (i := 7) _ _ _ _ _ rfl rfl rfl rfl rfl rfl (by kernel_rfl) (by kernel_rfl) (by kernel_rfl) (fun _ _ _ h => h) ?_
  refine wpAny_ext (i := 8) _ _ _ _ _ rfl rfl rfl rfl rfl rfl (by kernel_rfl) (by kernel_rfl) (by kernel_rfl) (fun _ _ _ h => h) ?_
  refine wpAny_tail 9 rfl (by kernel_rfl) ?_
  simp only [Act.put, List.setIfInBounds_toArray, List.set_cons_zero, List.set_cons_succ, List.drop_succ_cons, List.drop_zero, List.getElem_toArray, List.getElem_cons_succ, List.getElem_cons_zero]
  go_wp2_with (refine stWd rfl _ _ rfl k9x rfl rfl rfl ?_; intro w4 k9y hg4 hs4)
  have hL4 := hLx.set hg4 k9y (by omega) (by intro q hq; simp at hq; rcases hq with rfl | rfl <;> simp <;> omega)
  have k44 : Bk w4 w.heap.size 31 (a3 x y z) := hL4.k 2 (by simp)
  simp only [Act.put]
  have q2 := fun (d : Nat) (os : Array Obj) => cell_regrown (k44.cell3).2.2 d os
  refine wp_region_quiet_late 6 8 (by kernel_rfl) (by kernel_rfl) ?_
  simp only [List.take_succ_cons, List.take_zero]
  repeat (first | (refine wpQuiet_load rfl _ _ rfl k9y rfl Try.underlying84 rfl wd_size ?_; simp only [Act.put, List.setIfInBounds_toArray, List.set_cons_zero, List.set_cons_succ]) | go_big_quiet_step ((first | with_reducible exact quiet_below (hM3 _) | with_reducible exact quiet_below (hA2 _))) | quiet_step ((first | with_reducible exact quiet_below (hM3 _) | with_reducible exact quiet_below (hA2 _))))
  refine wpQuiet_nil ?_
  intro _ hw'
  obtain ⟨⟨d9, os⟩, hw''⟩ := hw'
  subst hw''
  have hbx := below_regrown w4 d9 os
  generalize Go.Sort.grow (redrawn w4 d9) os = wy at *
  have hLy := hL4.nx hbx
  have k9yx : Bk wy w1.heap.size 84 (wdA xy) := hLy.k 0 (by simp)
  show wpAny _ _ _ _ 3 _ _ _
  refine wpAny_ext (i := 6) _ _ _ _ _ rfl rfl rfl rfl rfl rfl (by kernel_rfl) (by kernel_rfl) (by kernel_rfl) (fun _ _ _ h => h) ?_
  refine wpAny_ext (i := 7) _ _ _ _ _ rfl rfl rfl rfl rfl rfl (by kernel_rfl) (by kernel_rfl) (by kernel_rfl) (fun _ _ _ h => h) ?_
  refine wpAny_tail 8 rfl (by kernel_rfl) ?_
  simp only [Act.put, List.setIfInBounds_toArray, List.set_cons_zero, List.set_cons_succ, List.drop_succ_cons, List.drop_zero, List.getElem_toArray, List.getElem_cons_succ, List.getElem_cons_zero]
  go_upto_region 4 with (refine stWd rfl _ _ rfl k9yx rfl rfl rfl ?_; intro w6 k9z hg6 hs6)
  have hL6 := hLy.set hg6 k9z (by omega) (by intro q hq; simp at hq; rcases hq with rfl | rfl <;> simp <;> omega)
  have k86 : Bk w6 (w.heap.size + 1) 91 #[.int .i64 0, .int .u64 0, .int .i64 0] := hL6.k 1 (by simp)
  have k46 : Bk w6 w.heap.size 31 (a3 x y z) := hL6.k 2 (by simp)
  obtain ⟨e0, e1⟩ := k9z.cell2
  have e2 := (k46.cell3).1
  go_wp2_with (refine stB rfl 91 _ _ rfl k86 (axA s x) rfl rfl ax_info rfl (by simp [Value.oneCell']) ?_; intro w8 k88 hg8 hs8)
  refine bodyPost_ret (res_cell rfl k88 rfl Try.underlying91 rfl ax_info) rfl ?_
  exact ⟨rfl, below_of_gb hL6.bel hg8 (by omega) hL6.sz⟩
set_option maxRecDepth 100000 in
set_option maxHeartbeats 4000000 in
theorem over_any (g i : Nat) (s b : Int) (w : World) (h0 : w.cell? ⟨g, i, none⟩ = some (.int .i64 (hi6 s))) (h1 : w.cell? ⟨g, i + 1, none⟩ = some (.int .u64 (lo6 s))) (ha : Wq (s * 65536)) (hb : b ≠ 0) (hb2 : J64 b) :
    Calls Try.prog 55 #[.pointer (some ⟨g, i, none⟩), .int .i64 b] w fun e w' => e = .returned (.int .i64 (plc s b)) ∧ Below w.heap.size w w' := by
  have hP := fun w' => qplace_any s b w' ha hb hb2
  clear ha hb hb2
  generalize plc s b = p at *
  go_enter Try.func55, Try.ntmps55
  go_wp2_with fail
  refine (hP _).mono ?_
  rintro e w1 ⟨rfl, hb1⟩
  go_wp2_with fail
  go_returns
  exact ⟨rfl, hb1⟩
set_option maxRecDepth 100000 in
set_option maxHeartbeats 4000000 in
theorem astep_any (g i : Nat) (t : TypeId) (old : Array Value) (s k n : Int) (w : World) (hK : Bk w g t old) (hi : i + 3 ≤ old.size) (h0 : old[i]? = some (.int .i64 (hi6 s))) (h1 : old[i + 1]? = some (.int .u64 (lo6 s))) (h2 : old[i + 2]? = some (.int .i64 k))
    (jk : J64 k) (jn : J64 n) (ws : Wd s) (wk : Wd (k * n)) (wsk : Wd (s + k * n)) :
    Calls Try.prog 81 #[.pointer (some ⟨g, i, none⟩), .int .i64 n] w fun e w' => e = .returned (.tuple #[]) ∧ Bk w' g t ((old.setIfInBounds i (.int .i64 (hi6 (s + k * n)))).setIfInBounds (i + 1) (.int .u64 (lo6 (s + k * n)))) ∧ w.grownBy w' (some g) := by
  have hM := fun w' => wmul_any k n w' jk jn
  have hA := fun w' => wadd_any s (k * n) w' ws wk wsk
  clear jk jn ws wk wsk
  generalize s + k * n = z at *
  generalize k * n = m at *
  have c0 : w.cell? ⟨g, i, none⟩ = some (.int .i64 (hi6 s)) := by rw [hK.cell]; exact h0
  have c1 : w.cell? ⟨g, i + 1, none⟩ = some (.int .u64 (lo6 s)) := by rw [hK.cell]; exact h1
  have c2 : w.cell? ⟨g, i + 2, none⟩ = some (.int .i64 k) := by rw [hK.cell]; exact h2
  have q0 := fun (d : Nat) (os : Array Obj) => cell_regrown c0 d os
  have q1 := fun (d : Nat) (os : Array Obj) => cell_regrown c1 d os
  have q2 := fun (d : Nat) (os : Array Obj) => cell_regrown c2 d os
  have HI := Lib.hid hi
  clear h0 h1 h2 c0 c1 c2 hi
  go_enter Try.func81, Try.ntmps81
  go_upto_region 0 with fail
  refine wp_region_quiet_late1 13 10 (.tmp 0) (by kernel_rfl) rfl rfl (by kernel_rfl) (fun _ _ _ h => h) ?_
  simp only [List.take_succ_cons, List.take_zero]
  repeat (first | go_big_quiet_step ((first | with_reducible exact quiet_below (hM _) | with_reducible exact quiet_below (hA _))) | quiet_step ((first | with_reducible exact quiet_below (hM _) | with_reducible exact quiet_below (hA _))))
  refine wpQuiet_nil ?_
  intro _ hw'
  obtain ⟨⟨d9, os⟩, hw''⟩ := hw'
  subst hw''
  have hbx := below_regrown w d9 os
  generalize Go.Sort.grow (redrawn w d9) os = wx at *
  have kx := hK.nx hbx
  show wpAny _ _ _ _ 5 _ _ _
  refine wpAny_ext (i := 13) _ _ _ _ _ rfl rfl rfl rfl rfl rfl (by kernel_rfl) (by kernel_rfl) (by kernel_rfl) (fun _ _ _ h => h) ?_
  refine wpAny_ext (i := 14) _ _ _ _ _ rfl rfl rfl rfl rfl rfl (by kernel_rfl) (by kernel_rfl) (by kernel_rfl) (fun _ _ _ h => h) ?_
  refine wpAny_tail 15 rfl (by kernel_rfl) ?_
  simp only [Act.put, List.setIfInBounds_toArray, List.set_cons_zero, List.set_cons_succ, List.drop_succ_cons, List.drop_zero, List.getElem_toArray, List.getElem_cons_succ, List.getElem_cons_zero]
  go_wp2_with (refine st_two rfl _ _ _ rfl kx i (by have := HI.out; omega) (.int .i64 (hi6 z)) (.int .u64 (lo6 z)) rfl rfl wd_size rfl rfl ?_; intro w4 k4 hg4 hs4)
  go_end0
  exact ⟨rfl, k4, gb_trans (gb_of_below hbx) hg4 (fun g e => .inl e)⟩
end Go.Proofs.Ytebcienjeponmaa
