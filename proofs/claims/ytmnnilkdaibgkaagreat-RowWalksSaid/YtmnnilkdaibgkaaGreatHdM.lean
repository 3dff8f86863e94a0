/- hdda: the lines of a map; numbers that grow along a row; Next (Hd1, QLate1, Hd2, Hd3, Hd4 in one text). -/
import Derived.Test.YtmnnilkdaibgkaaGreatK2
import Derived.BigRegion
import Derived.RegionTactic
import Derived.Test.YtmnnilkdaibgkaaGreatQLate1
import Derived.Defers
set_option linter.unusedVariables false
namespace Go.Proofs.YtmnnilkdaibgkaaGreat
open Go.RowKit
theorem res_cell3 {P : Program} {fn : Func} {p q r : Tmp} {ty : TypeId} (h : fn.results = #[.cell p ty, .cell q ty, .cell r ty]) {tmps : Array Value} {w : World} {g g2 g3 : Nat} {t : TypeId} {cs cs2 cs3 : Array Value} (hK : Bk w g t cs) (hK2 : Bk w g2 t cs2) (hK3 : Bk w g3 t cs3) {d : TypeDesc}
    (hp : tmps.getD p undef = .pointer (some ⟨g, 0, none⟩)) (hq : tmps.getD q undef = .pointer (some ⟨g2, 0, none⟩)) (hr : tmps.getD r undef = .pointer (some ⟨g3, 0, none⟩)) (hu : P.underlying ty = some d) (hd : (match d with | .struct _ | .array _ _ => true | _ => false) = true) (hi : (P.info? ty).map (·.size) = some cs.size) (hi2 : cs2.size = cs.size := by rfl) (hi3 : cs3.size = cs.size := by rfl) :
    (results fn tmps).run P w = .ok (.tuple #[.agg cs, .agg cs2, .agg cs3]) w := by
  have hp' : tmps[p]?.getD undef = .pointer (some ⟨g, 0, none⟩) := by simpa using hp
  have hq' : tmps[q]?.getD undef = .pointer (some ⟨g2, 0, none⟩) := by simpa using hq
  have hr' : tmps[r]?.getD undef = .pointer (some ⟨g3, 0, none⟩) := by simpa using hr
  simp [results, h, hp', hq', hr', asAddr, run_loadVar_row w g t ty cs (0, 0) d hK hu hd hi, run_loadVar_row w g2 t ty cs2 (0, 0) d hK2 hu hd (by rw [hi, hi2]), run_loadVar_row w g3 t ty cs3 (0, 0) d hK3 hu hd (by rw [hi, hi3])]
theorem hdin_any (a : Int) (w : World) : Calls Tryz.prog 73 #[.int .i64 a] w fun e w' => e = .returned (.bool (inH a 1048576)) ∧ w = w' := by
  rw [inH_eq]
  by_cases h1 : -1048576 ≤ a
  all_goals
    go_enter Tryz.func73, Tryz.ntmps73
    go_wp2
    go_ret
    exact ⟨ret_bool (by simp [h1] <;> omega), rfl⟩
set_option maxRecDepth 100000 in
set_option maxHeartbeats 4000000 in
theorem lines_any (a : Nat → Int) (g : Nat) (w : World) (hK : Bk w g 163 (mA a)) :
    Calls Tryz.prog 74 #[.pointer (some ⟨g, 0, none⟩)] w fun e w' => e = .returned (.tuple #[.agg (a3 (a 0) (a 1) (a 2)), .agg (a3 (a 3) (a 4) (a 5)), .agg (a3 (a 6) (a 7) (a 8))]) ∧ Below w.heap.size w w' := by
  have hL := (((Lie.start w).alloc (a3 0 0 0) 108).alloc (a3 0 0 0) 108).alloc (a3 0 0 0) 108
  simp only [World.size_alloc] at hL
  have hlt := hK.lt
  go_enter Tryz.func74, Tryz.ntmps74
  go_upto_region 3 with fail
  have hK3 := ((hK.alloc (.cells (a3 0 0 0) 108)).alloc (.cells (a3 0 0 0) 108)).alloc (.cells (a3 0 0 0) 108)
  generalize ((w.alloc (.cells (a3 0 0 0) 108)).alloc (.cells (a3 0 0 0) 108)).alloc (.cells (a3 0 0 0) 108) = w3 at *
  obtain ⟨c0, c1, c2, c3, c4, c5, c6, c7, c8⟩ := hK3.cell9
  have k0 : Bk w3 w.heap.size 108 (a3 0 0 0) := hL.k 2 (by simp)
  have k1 : Bk w3 (w.heap.size + 1) 108 (a3 0 0 0) := hL.k 1 (by simp)
  have k2 : Bk w3 (w.heap.size + 1 + 1) 108 (a3 0 0 0) := hL.k 0 (by simp)
  obtain ⟨d0, d1, d2⟩ := k0.cell3
  obtain ⟨d3, d4, d5⟩ := k1.cell3
  obtain ⟨d6, d7, d8⟩ := k2.cell3
  have f0 := k0.frozen
  have f1 := k1.frozen
  have f2 := k2.frozen
  have n0 : g ≠ w.heap.size := by omega
  have n1 : g ≠ w.heap.size + 1 := by omega
  have n2 : g ≠ w.heap.size + 1 + 1 := by omega
  go_region
  have b0 := (((((((((k0.set3 (.int .i64 (a 0)) (.int .i64 (a 1)) (.int .i64 (a 2))).far (p := ⟨w.heap.size + 1, 0, none⟩) (by simp) (.int .i64 (a 3))).far (p := ⟨w.heap.size + 1, 1, none⟩) (by simp) (.int .i64 (a 4))).far (p := ⟨w.heap.size + 1, 2, none⟩) (by simp) (.int .i64 (a 5))).far (p := ⟨w.heap.size + 1 + 1, 0, none⟩) (by simp; omega) (.int .i64 (a 6))).far (p := ⟨w.heap.size + 1 + 1, 1, none⟩) (by simp; omega) (.int .i64 (a 7))).far (p := ⟨w.heap.size + 1 + 1, 2, none⟩) (by simp; omega) (.int .i64 (a 8)))).drew)
  have b1 := (((((((k1.far (p := ⟨w.heap.size, 0, none⟩) (by simp) (.int .i64 (a 0))).far (p := ⟨w.heap.size, 1, none⟩) (by simp) (.int .i64 (a 1))).far (p := ⟨w.heap.size, 2, none⟩) (by simp) (.int .i64 (a 2))).set3 (.int .i64 (a 3)) (.int .i64 (a 4)) (.int .i64 (a 5))).far (p := ⟨w.heap.size + 1 + 1, 0, none⟩) (by simp) (.int .i64 (a 6))).far (p := ⟨w.heap.size + 1 + 1, 1, none⟩) (by simp) (.int .i64 (a 7))).far (p := ⟨w.heap.size + 1 + 1, 2, none⟩) (by simp) (.int .i64 (a 8))).drew
  have b2 := (((((((k2.far (p := ⟨w.heap.size, 0, none⟩) (by simp; omega) (.int .i64 (a 0))).far (p := ⟨w.heap.size, 1, none⟩) (by simp; omega) (.int .i64 (a 1))).far (p := ⟨w.heap.size, 2, none⟩) (by simp; omega) (.int .i64 (a 2))).far (p := ⟨w.heap.size + 1, 0, none⟩) (by simp) (.int .i64 (a 3))).far (p := ⟨w.heap.size + 1, 1, none⟩) (by simp) (.int .i64 (a 4))).far (p := ⟨w.heap.size + 1, 2, none⟩) (by simp) (.int .i64 (a 5))).set3 (.int .i64 (a 6)) (.int .i64 (a 7)) (.int .i64 (a 8))).drew
  have hbl : Below w.heap.size w _ := (((((((((hL.bel.setCell (p := ⟨w.heap.size, 0, none⟩) (by simp) (.int .i64 (a 0))).setCell (p := ⟨w.heap.size, 1, none⟩) (by simp) (.int .i64 (a 1))).setCell (p := ⟨w.heap.size, 2, none⟩) (by simp) (.int .i64 (a 2))).setCell (p := ⟨w.heap.size + 1, 0, none⟩) (by simp) (.int .i64 (a 3))).setCell (p := ⟨w.heap.size + 1, 1, none⟩) (by simp) (.int .i64 (a 4))).setCell (p := ⟨w.heap.size + 1, 2, none⟩) (by simp) (.int .i64 (a 5))).setCell (p := ⟨w.heap.size + 1 + 1, 0, none⟩) (by simp; omega) (.int .i64 (a 6))).setCell (p := ⟨w.heap.size + 1 + 1, 1, none⟩) (by simp; omega) (.int .i64 (a 7))).setCell (p := ⟨w.heap.size + 1 + 1, 2, none⟩) (by simp; omega) (.int .i64 (a 8)))
  replace hbl := below_drewN hbl 1
  clear f0 f1 f2 d0 d1 d2 d3 d4 d5 d6 d7 d8 c0 c1 c2 c3 c4 c5 c6 c7 c8 k0 k1 k2
  go_wp2_with fail
  refine bodyPost_ret (res_cell3 rfl b0 b1 b2 rfl rfl rfl Tryz.underlying108 rfl a3_info) rfl ?_
  exact ⟨rfl, hbl⟩
end Go.Proofs.YtmnnilkdaibgkaaGreat


namespace Go.Proofs.YtmnnilkdaibgkaaGreat
open Go.RowKit
/-- A number that grows by the same in each step. -/
abbrev hxA (s k : Int) : Array Value := #[.int .i64 (hi6 s), .int .u64 (lo6 s), .int .i64 k]
theorem ax_info : (Tryz.prog.info? 129).map (·.size) = some 3 := by kernel_rfl
set_option maxRecDepth 100000 in
set_option maxHeartbeats 8000000 in
theorem begin_any (x y z px py : Int) (w : World) (h : LnOk x y z) (hp : rightH px py 1 = true) :
    Calls Tryz.prog 75 #[.agg (a3 x y z), .int .i64 px, .int .i64 py] w fun e w' => e = .returned (.agg (hxA (smR x y z px py 1) x)) ∧ Below w.heap.size w w' := by
  obtain ⟨b0, b1, b2, b3, b4, b5, j1, j2, j3⟩ := sum_bd h hp
  rw [Int.mul_one] at b4 b5
  obtain ⟨x0, x1, y0, y1, z0, z1⟩ := h
  have hM1 := fun w' => wmul_any x px w' ⟨by omega, by omega⟩ j1
  have hM2 := fun w' => wmul_any y py w' ⟨by omega, by omega⟩ j2
  have hM3 := fun w' => wof_any z w' ⟨by omega, by omega⟩
  have hA1 := fun w' => wadd_any (x * px) (y * py) w' (by unfold Wd; omega) (by unfold Wd; omega) (by unfold Wd; omega)
  have hA2 := fun w' => wadd_any (x * px + y * py) z w' (by unfold Wd; omega) (by unfold Wd; omega) (by unfold Wd; omega)
  have HS := Lib.hid (show smR x y z px py 1 = x * px + y * py + z by unfold smR; rw [Int.mul_one])
  rw [← HS.out] at hA2
  clear b0 b1 b2 b3 b4 b5 j1 j2 j3 x0 x1 y0 y1 z0 z1 hp HS
  generalize smR x y z px py 1 = s at *
  generalize x * px + y * py = xy at *
  generalize x * px = xp at *
  generalize y * py = yp at *
  have hL := ((Lie.start w).alloc (a3 x y z) 108).alloc #[.int .i64 0, .int .u64 0, .int .i64 0] 129
  simp only [World.size_alloc] at hL
  go_enter Tryz.func75, Tryz.ntmps75
  go_wp2_with fail
  refine (hM1 _).mono ?_
  rintro e w1 ⟨rfl, hb1⟩
  have hw1z : w.heap.size + 1 < w1.heap.size := by have := hb1.size; simp at this; omega
  replace hL := (hL.nx hb1).alloc (wdA xp) 113
  clear hb1
  go_upto_region 2 with fail
  generalize w1.alloc (.cells (wdA xp) 113) = w2 at *
  have k4 : Bk w2 w.heap.size 108 (a3 x y z) := hL.k 2 (by simp)
  have k9 : Bk w2 w1.heap.size 113 (wdA xp) := hL.k 0 (by simp)
  have q1 := fun (d : Nat) (os : Array Obj) => cell_regrown (k4.cell3).2.1 d os
  refine wp_region_quiet_late 7 8 (by kernel_rfl) (by kernel_rfl) ?_
  simp only [List.take_succ_cons, List.take_zero]
  repeat (first | (refine wpQuiet_load rfl _ _ rfl k9 rfl Tryz.underlying113 rfl wd_size ?_; simp only [Act.put, List.setIfInBounds_toArray, List.set_cons_zero, List.set_cons_succ]) | go_big_quiet_step ((first | with_reducible exact quiet_below (hM2 _) | with_reducible exact quiet_below (hA1 _))) | quiet_step ((first | with_reducible exact quiet_below (hM2 _) | with_reducible exact quiet_below (hA1 _))))
  refine wpQuiet_nil ?_
  intro _ hw'
  obtain ⟨⟨d9, os⟩, hw''⟩ := hw'
  subst hw''
  have hbx := below_regrown w2 d9 os
  generalize Go.Sort.grow (redrawn w2 d9) os = wx at *
  have hLx := hL.nx hbx
  have k9x : Bk wx w1.heap.size 113 (wdA xp) := hLx.k 0 (by simp)
  show wpAny _ _ _ _ 3 _ _ _
  refine wpAny_ext (i := 7) _ _ _ _ _ rfl rfl rfl rfl rfl rfl (by kernel_rfl) (by kernel_rfl) (by kernel_rfl) (fun _ _ _ h => h) ?_
  refine wpAny_ext (i := 8) _ _ _ _ _ rfl rfl rfl rfl rfl rfl (by kernel_rfl) (by kernel_rfl) (by kernel_rfl) (fun _ _ _ h => h) ?_
  refine wpAny_tail 9 rfl (by kernel_rfl) ?_
  simp only [Act.put, List.setIfInBounds_toArray, List.set_cons_zero, List.set_cons_succ, List.drop_succ_cons, List.drop_zero, List.getElem_toArray, List.getElem_cons_succ, List.getElem_cons_zero]
  go_wp2_with (refine stWd rfl _ _ rfl k9x rfl rfl rfl ?_; intro w4 k9y hg4 hs4)
  have hL4 := hLx.set hg4 k9y (by omega) (by intro q hq; simp at hq; rcases hq with rfl | rfl <;> simp <;> omega)
  have k44 : Bk w4 w.heap.size 108 (a3 x y z) := hL4.k 2 (by simp)
  simp only [Act.put]
  have q2 := fun (d : Nat) (os : Array Obj) => cell_regrown (k44.cell3).2.2 d os
  refine wp_region_quiet_late 6 8 (by kernel_rfl) (by kernel_rfl) ?_
  simp only [List.take_succ_cons, List.take_zero]
  repeat (first | (refine wpQuiet_load rfl _ _ rfl k9y rfl Tryz.underlying113 rfl wd_size ?_; simp only [Act.put, List.setIfInBounds_toArray, List.set_cons_zero, List.set_cons_succ]) | go_big_quiet_step ((first | with_reducible exact quiet_below (hM3 _) | with_reducible exact quiet_below (hA2 _))) | quiet_step ((first | with_reducible exact quiet_below (hM3 _) | with_reducible exact quiet_below (hA2 _))))
  refine wpQuiet_nil ?_
  intro _ hw'
  obtain ⟨⟨d9, os⟩, hw''⟩ := hw'
  subst hw''
  have hbx := below_regrown w4 d9 os
  generalize Go.Sort.grow (redrawn w4 d9) os = wy at *
  have hLy := hL4.nx hbx
  have k9yx : Bk wy w1.heap.size 113 (wdA xy) := hLy.k 0 (by simp)
  show wpAny _ _ _ _ 3 _ _ _
  refine wpAny_ext (i := 6) _ _ _ _ _ rfl rfl rfl rfl rfl rfl (by kernel_rfl) (by kernel_rfl) (by kernel_rfl) (fun _ _ _ h => h) ?_
  refine wpAny_ext (i := 7) _ _ _ _ _ rfl rfl rfl rfl rfl rfl (by kernel_rfl) (by kernel_rfl) (by kernel_rfl) (fun _ _ _ h => h) ?_
  refine wpAny_tail 8 rfl (by kernel_rfl) ?_
  simp only [Act.put, List.setIfInBounds_toArray, List.set_cons_zero, List.set_cons_succ, List.drop_succ_cons, List.drop_zero, List.getElem_toArray, List.getElem_cons_succ, List.getElem_cons_zero]
  go_upto_region 4 with (refine stWd rfl _ _ rfl k9yx rfl rfl rfl ?_; intro w6 k9z hg6 hs6)
  have hL6 := hLy.set hg6 k9z (by omega) (by intro q hq; simp at hq; rcases hq with rfl | rfl <;> simp <;> omega)
  have k86 : Bk w6 (w.heap.size + 1) 129 #[.int .i64 0, .int .u64 0, .int .i64 0] := hL6.k 1 (by simp)
  have k46 : Bk w6 w.heap.size 108 (a3 x y z) := hL6.k 2 (by simp)
  obtain ⟨e0, e1⟩ := k9z.cell2
  have e2 := (k46.cell3).1
  go_wp2_with (refine stB rfl 129 _ _ rfl k86 (hxA s x) rfl rfl ax_info rfl (by simp [Value.oneCell']) ?_; intro w8 k88 hg8 hs8)
  refine bodyPost_ret (res_cell rfl k88 rfl Tryz.underlying129 rfl ax_info) rfl ?_
  exact ⟨rfl, below_of_gb hL6.bel hg8 (by omega) hL6.sz⟩
set_option maxRecDepth 100000 in
set_option maxHeartbeats 4000000 in
theorem over_any (g i : Nat) (s b : Int) (w : World) (h0 : w.cell? ⟨g, i, none⟩ = some (.int .i64 (hi6 s))) (h1 : w.cell? ⟨g, i + 1, none⟩ = some (.int .u64 (lo6 s))) (ha : Wq (s * 65536)) (hb : b ≠ 0) (hb2 : J64 b) :
    Calls Tryz.prog 114 #[.pointer (some ⟨g, i, none⟩), .int .i64 b] w fun e w' => e = .returned (.int .i64 (plc s b)) ∧ Below w.heap.size w w' := by
  have hP := fun w' => qplace_any s b w' ha hb hb2
  clear ha hb hb2
  generalize plc s b = p at *
  go_enter Tryz.func114, Tryz.ntmps114
  go_wp2_with fail
  refine (hP _).mono ?_
  rintro e w1 ⟨rfl, hb1⟩
  go_wp2_with fail
  go_returns
  exact ⟨rfl, hb1⟩
set_option maxRecDepth 100000 in
set_option maxHeartbeats 4000000 in
theorem astep_any (g i : Nat) (t : TypeId) (old : Array Value) (s k n : Int) (w : World) (hK : Bk w g t old) (hi : i + 3 ≤ old.size) (h0 : old[i]? = some (.int .i64 (hi6 s))) (h1 : old[i + 1]? = some (.int .u64 (lo6 s))) (h2 : old[i + 2]? = some (.int .i64 k))
    (jk : J64 k) (jn : J64 n) (ws : Wd s) (wk : Wd (k * n)) (wsk : Wd (s + k * n)) :
    Calls Tryz.prog 115 #[.pointer (some ⟨g, i, none⟩), .int .i64 n] w fun e w' => e = .returned (.tuple #[]) ∧ Bk w' g t ((old.setIfInBounds i (.int .i64 (hi6 (s + k * n)))).setIfInBounds (i + 1) (.int .u64 (lo6 (s + k * n)))) ∧ w.grownBy w' (some g) := by
  have hM := fun w' => wmul_any k n w' jk jn
  have hA := fun w' => wadd_any s (k * n) w' ws wk wsk
  clear jk jn ws wk wsk
  generalize s + k * n = z at *
  generalize k * n = m at *
  have c0 : w.cell? ⟨g, i, none⟩ = some (.int .i64 (hi6 s)) := by rw [hK.cell]; exact h0
  have c1 : w.cell? ⟨g, i + 1, none⟩ = some (.int .u64 (lo6 s)) := by rw [hK.cell]; exact h1
  have c2 : w.cell? ⟨g, i + 2, none⟩ = some (.int .i64 k) := by rw [hK.cell]; exact h2
  have q0 := fun (d : Nat) (os : Array Obj) => cell_regrown c0 d os
  have q1 := fun (d : Nat) (os : Array Obj) => cell_regrown c1 d os
  have q2 := fun (d : Nat) (os : Array Obj) => cell_regrown c2 d os
  have HI := Lib.hid hi
  clear h0 h1 h2 c0 c1 c2 hi
  go_enter Tryz.func115, Tryz.ntmps115
  go_upto_region 0 with fail
  refine wp_region_quiet_late1 13 10 (.tmp 0) (by kernel_rfl) rfl rfl (by kernel_rfl) (fun _ _ _ h => h) ?_
  simp only [List.take_succ_cons, List.take_zero]
  repeat (first | go_big_quiet_step ((first | with_reducible exact quiet_below (hM _) | with_reducible exact quiet_below (hA _))) | quiet_step ((first | with_reducible exact quiet_below (hM _) | with_reducible exact quiet_below (hA _))))
  refine wpQuiet_nil ?_
  intro _ hw'
  obtain ⟨⟨d9, os⟩, hw''⟩ := hw'
  subst hw''
  have hbx := below_regrown w d9 os
  generalize Go.Sort.grow (redrawn w d9) os = wx at *
  have kx := hK.nx hbx
  show wpAny _ _ _ _ 5 _ _ _
  refine wpAny_ext (i := 13) _ _ _ _ _ rfl rfl rfl rfl rfl rfl (by kernel_rfl) (by kernel_rfl) (by kernel_rfl) (fun _ _ _ h => h) ?_
  refine wpAny_ext (i := 14) _ _ _ _ _ rfl rfl rfl rfl rfl rfl (by kernel_rfl) (by kernel_rfl) (by kernel_rfl) (fun _ _ _ h => h) ?_
  refine wpAny_tail 15 rfl (by kernel_rfl) ?_
  simp only [Act.put, List.setIfInBounds_toArray, List.set_cons_zero, List.set_cons_succ, List.drop_succ_cons, List.drop_zero, List.getElem_toArray, List.getElem_cons_succ, List.getElem_cons_zero]
  go_wp2_with (refine st_two rfl _ _ _ rfl kx i (by have := HI.out; omega) (.int .i64 (hi6 z)) (.int .u64 (lo6 z)) rfl rfl wd_size rfl rfl ?_; intro w4 k4 hg4 hs4)
  go_end0
  exact ⟨rfl, k4, gb_trans (gb_of_below hbx) hg4 (fun g e => .inl e)⟩
end Go.Proofs.YtmnnilkdaibgkaaGreat

namespace Go.Proofs.YtmnnilkdaibgkaaGreat
open Go.RowKit
/-- A walk's cells. -/
abbrev wkA (x su gu sv gv sb gb : Int) : Array Value := #[.int .i64 x, .int .i64 (hi6 su), .int .u64 (lo6 su), .int .i64 gu, .int .i64 (hi6 sv), .int .u64 (lo6 sv), .int .i64 gv, .int .i64 (hi6 sb), .int .u64 (lo6 sb), .int .i64 gb, .bool true]
/-- While a step is made. -/
def wkK (x su gu sv gv sb gb n : Int) (k : Nat) : Array Value := match k with
  | 0 => wkA (x + n) su gu sv gv sb gb
  | 1 => wkA (x + n) (su + gu * n) gu sv gv sb gb
  | 2 => wkA (x + n) (su + gu * n) gu (sv + gv * n) gv sb gb
  | _ => wkA (x + n) (su + gu * n) gu (sv + gv * n) gv (sb + gb * n) gb
/-- The numbers have room for a step. -/
structure StOk (s k n : Int) : Prop where
  jk : J64 k
  ws : Wd s
  wk : Wd (k * n)
  wsk : Wd (s + k * n)
set_option maxRecDepth 100000 in
set_option maxHeartbeats 4000000 in
theorem wstep_any (g : Nat) (x su gu sv gv sb gb n : Int) (w : World) (hK : Bk w g 132 (wkA x su gu sv gv sb gb)) (jn : J64 n) (hx : -4611686018427387904 ≤ x + n ∧ x + n ≤ 4611686018427387904) (hu : StOk su gu n) (hv : StOk sv gv n) (hb : StOk sb gb n) :
    Calls Tryz.prog 77 #[.pointer (some ⟨g, 0, none⟩), .int .i64 n] w fun e w' => e = .returned (.tuple #[]) ∧ Bk w' g 132 (wkK x su gu sv gv sb gb n 3) ∧ w.grownBy w' (some g) := by
  have hc := hK.cell11
  obtain ⟨c0, c1, c2, c3, c4, c5, c6, c7, c8, c9, c10⟩ := hc
  have f0 := hK.frozen 0
  have hwx : IntKind.i64.wrap (x + n) = x + n := IntWalk.i64_in _ ⟨by omega, by omega⟩
  go_enter Tryz.func77, Tryz.ntmps77
  go_upto_region 1 with fail
  have hg0 := gb_set1 w ⟨g, 0, none⟩ (.int .i64 (x + n))
  have hK0 : Bk (w.setCell ⟨g, 0, none⟩ (.int .i64 (x + n))) g 132 (wkK x su gu sv gv sb gb n 0) := hK.set 0 _
  clear c0 c1 c2 c3 c4 c5 c6 c7 c8 c9 c10 f0 hwx hK
  generalize w.setCell ⟨g, 0, none⟩ (.int .i64 (x + n)) = w0 at *
  go_quiet (fail)
  replace hK0 := hK0.drewN nq
  replace hg0 : w.grownBy (w0.drewN nq) (some g) := gb_drewN hg0 nq
  generalize w0.drewN nq = w1 at *
  have ix0 : ∀ w', (Instr.index 166 (.agg #[.func (.func 115) #[.pointer (some ⟨g, 1, none⟩)] #[], .func (.func 115) #[.pointer (some ⟨g, 4, none⟩)] #[], .func (.func 115) #[.pointer (some ⟨g, 7, none⟩)] #[]]) (.int .i64 0)).run Tryz.prog w' = .ok (.func (.func 115) #[.pointer (some ⟨g, 1, none⟩)] #[]) w' := fun _ => rfl
  have ix1 : ∀ w', (Instr.index 166 (.agg #[.func (.func 115) #[.pointer (some ⟨g, 1, none⟩)] #[], .func (.func 115) #[.pointer (some ⟨g, 4, none⟩)] #[], .func (.func 115) #[.pointer (some ⟨g, 7, none⟩)] #[]]) (.int .i64 1)).run Tryz.prog w' = .ok (.func (.func 115) #[.pointer (some ⟨g, 4, none⟩)] #[]) w' := fun _ => rfl
  have ix2 : ∀ w', (Instr.index 166 (.agg #[.func (.func 115) #[.pointer (some ⟨g, 1, none⟩)] #[], .func (.func 115) #[.pointer (some ⟨g, 4, none⟩)] #[], .func (.func 115) #[.pointer (some ⟨g, 7, none⟩)] #[]]) (.int .i64 2)).run Tryz.prog w' = .ok (.func (.func 115) #[.pointer (some ⟨g, 7, none⟩)] #[]) w' := fun _ => rfl
  go_wp2_with fail
  go_loopw [5, 27] (fun _ kv wr => ∃ k : Nat, k ≤ 3 ∧ kv = .int .i64 k ∧ Bk wr g 132 (wkK x su gu sv gv sb gb n k) ∧ w.grownBy wr (some g)) (fun _ kv _ => 3 - (intOf kv).toNat)
  case atStart => exact ⟨0, by omega, rfl, hK0, hg0⟩
  case round =>
    clear hK0 hg0
    obtain ⟨k, hk, rfl, hK, hg⟩ := hrel
    by_cases hlt : k < 3
    · have h3 : k = 0 ∨ k = 1 ∨ k = 2 := by omega
      rcases h3 with rfl | rfl | rfl
      · have hS := fun (w' : World) (hk : Bk w' g 132 (wkK x su gu sv gv sb gb n 0)) => astep_any g 1 _ _ su gu n w' hk (by simp [wkK]) rfl rfl rfl hu.jk jn hu.ws hu.wk hu.wsk
        go_wp2_with (go_at_call 115; (with_reducible refine (hS _ (by exact hK)).mono ?_); rintro e w2 ⟨rfl, hK2, hg2⟩)
        exact ⟨⟨1, by omega, rfl, hK2, gb_trans hg hg2 (fun g e => .inl e)⟩, by simp [intOf]⟩
      · have hS := fun (w' : World) (hk : Bk w' g 132 (wkK x su gu sv gv sb gb n 1)) => astep_any g 4 _ _ sv gv n w' hk (by simp [wkK]) rfl rfl rfl hv.jk jn hv.ws hv.wk hv.wsk
        go_wp2_with (go_at_call 115; (with_reducible refine (hS _ (by exact hK)).mono ?_); rintro e w2 ⟨rfl, hK2, hg2⟩)
        exact ⟨⟨2, by omega, rfl, hK2, gb_trans hg hg2 (fun g e => .inl e)⟩, by simp [intOf]⟩
      · have hS := fun (w' : World) (hk : Bk w' g 132 (wkK x su gu sv gv sb gb n 2)) => astep_any g 7 _ _ sb gb n w' hk (by simp [wkK]) rfl rfl rfl hb.jk jn hb.ws hb.wk hb.wsk
        go_wp2_with (go_at_call 115; (with_reducible refine (hS _ (by exact hK)).mono ?_); rintro e w2 ⟨rfl, hK2, hg2⟩)
        exact ⟨⟨3, by omega, rfl, hK2, gb_trans hg hg2 (fun g e => .inl e)⟩, by simp [intOf]⟩
    · obtain rfl : k = 3 := by omega
      go_wp2_with fail
      go_end0
      exact ⟨rfl, hK, hg⟩
set_option maxRecDepth 100000 in
set_option maxHeartbeats 4000000 in
theorem wstep_d (g : Nat) (x su gu sv gv sb gb n : Int) (w : World) (u : FrameMode) (hK : Bk w g 132 (wkA x su gu sv gv sb gb)) (jn : J64 n) (hx : -4611686018427387904 ≤ x + n ∧ x + n ≤ 4611686018427387904) (hu : StOk su gu n) (hv : StOk sv gv n) (hb : StOk sb gb n) :
    CallsD Tryz.prog 77 #[.pointer (some ⟨g, 0, none⟩), .int .i64 n] u w fun e u' w' => u' = u ∧ (e = .returned (.tuple #[]) ∧ Bk w' g 132 (wkK x su gu sv gv sb gb n 3) ∧ w.grownBy w' (some g)) := by
  have hc := hK.cell11
  obtain ⟨c0, c1, c2, c3, c4, c5, c6, c7, c8, c9, c10⟩ := hc
  have f0 := hK.frozen 0
  have hwx : IntKind.i64.wrap (x + n) = x + n := IntWalk.i64_in _ ⟨by omega, by omega⟩
  go_enter_d Tryz.func77, Tryz.ntmps77
  go_upto_region 1 with fail
  have hg0 := gb_set1 w ⟨g, 0, none⟩ (.int .i64 (x + n))
  have hK0 : Bk (w.setCell ⟨g, 0, none⟩ (.int .i64 (x + n))) g 132 (wkK x su gu sv gv sb gb n 0) := hK.set 0 _
  clear c0 c1 c2 c3 c4 c5 c6 c7 c8 c9 c10 f0 hwx hK
  generalize w.setCell ⟨g, 0, none⟩ (.int .i64 (x + n)) = w0 at *
  go_quiet (fail)
  replace hK0 := hK0.drewN nq
  replace hg0 : w.grownBy (w0.drewN nq) (some g) := gb_drewN hg0 nq
  generalize w0.drewN nq = w1 at *
  have ix0 : ∀ w', (Instr.index 166 (.agg #[.func (.func 115) #[.pointer (some ⟨g, 1, none⟩)] #[], .func (.func 115) #[.pointer (some ⟨g, 4, none⟩)] #[], .func (.func 115) #[.pointer (some ⟨g, 7, none⟩)] #[]]) (.int .i64 0)).run Tryz.prog w' = .ok (.func (.func 115) #[.pointer (some ⟨g, 1, none⟩)] #[]) w' := fun _ => rfl
  have ix1 : ∀ w', (Instr.index 166 (.agg #[.func (.func 115) #[.pointer (some ⟨g, 1, none⟩)] #[], .func (.func 115) #[.pointer (some ⟨g, 4, none⟩)] #[], .func (.func 115) #[.pointer (some ⟨g, 7, none⟩)] #[]]) (.int .i64 1)).run Tryz.prog w' = .ok (.func (.func 115) #[.pointer (some ⟨g, 4, none⟩)] #[]) w' := fun _ => rfl
  have ix2 : ∀ w', (Instr.index 166 (.agg #[.func (.func 115) #[.pointer (some ⟨g, 1, none⟩)] #[], .func (.func 115) #[.pointer (some ⟨g, 4, none⟩)] #[], .func (.func 115) #[.pointer (some ⟨g, 7, none⟩)] #[]]) (.int .i64 2)).run Tryz.prog w' = .ok (.func (.func 115) #[.pointer (some ⟨g, 7, none⟩)] #[]) w' := fun _ => rfl
  go_wp2_with fail
  go_loopw [5, 27] (fun _ kv wr => ∃ k : Nat, k ≤ 3 ∧ kv = .int .i64 k ∧ Bk wr g 132 (wkK x su gu sv gv sb gb n k) ∧ w.grownBy wr (some g)) (fun _ kv _ => 3 - (intOf kv).toNat)
  case atStart => exact ⟨0, by omega, rfl, hK0, hg0⟩
  case round =>
    clear hK0 hg0
    obtain ⟨k, hk, rfl, hK, hg⟩ := hrel
    by_cases hlt : k < 3
    · have h3 : k = 0 ∨ k = 1 ∨ k = 2 := by omega
      rcases h3 with rfl | rfl | rfl
      · have hS := fun (w' : World) (hk : Bk w' g 132 (wkK x su gu sv gv sb gb n 0)) => astep_any g 1 _ _ su gu n w' hk (by simp [wkK]) rfl rfl rfl hu.jk jn hu.ws hu.wk hu.wsk
        go_wp2_with (go_at_call 115; (with_reducible refine (hS _ (by exact hK)).mono ?_); rintro e w2 ⟨rfl, hK2, hg2⟩)
        exact ⟨⟨1, by omega, rfl, hK2, gb_trans hg hg2 (fun g e => .inl e)⟩, by simp [intOf]⟩
      · have hS := fun (w' : World) (hk : Bk w' g 132 (wkK x su gu sv gv sb gb n 1)) => astep_any g 4 _ _ sv gv n w' hk (by simp [wkK]) rfl rfl rfl hv.jk jn hv.ws hv.wk hv.wsk
        go_wp2_with (go_at_call 115; (with_reducible refine (hS _ (by exact hK)).mono ?_); rintro e w2 ⟨rfl, hK2, hg2⟩)
        exact ⟨⟨2, by omega, rfl, hK2, gb_trans hg hg2 (fun g e => .inl e)⟩, by simp [intOf]⟩
      · have hS := fun (w' : World) (hk : Bk w' g 132 (wkK x su gu sv gv sb gb n 2)) => astep_any g 7 _ _ sb gb n w' hk (by simp [wkK]) rfl rfl rfl hb.jk jn hb.ws hb.wk hb.wsk
        go_wp2_with (go_at_call 115; (with_reducible refine (hS _ (by exact hK)).mono ?_); rintro e w2 ⟨rfl, hK2, hg2⟩)
        exact ⟨⟨3, by omega, rfl, hK2, gb_trans hg hg2 (fun g e => .inl e)⟩, by simp [intOf]⟩
    · obtain rfl : k = 3 := by omega
      go_wp2_with fail
      go_end0
      exact ⟨rfl, hK, hg⟩
end Go.Proofs.YtmnnilkdaibgkaaGreat

namespace Go.Proofs.YtmnnilkdaibgkaaGreat
open Go.RowKit
/-- A walk that stands at a column of a row. -/
def wkT (a : Nat → Int) (x y : Int) : Array Value := wkA x (smR (a 0) (a 1) (a 2) x y 1) (a 0) (smR (a 3) (a 4) (a 5) x y 1) (a 3) (smR (a 6) (a 7) (a 8) x y 1) (a 6)
theorem smR_step (p q r x y n : Int) : smR p q r x y 1 + p * n = smR p q r (x + n) y 1 := by
  unfold smR
  rw [Int.mul_add]; omega
theorem wkK_3 (a : Nat → Int) (x y n : Int) : wkK x (smR (a 0) (a 1) (a 2) x y 1) (a 0) (smR (a 3) (a 4) (a 5) x y 1) (a 3) (smR (a 6) (a 7) (a 8) x y 1) (a 6) n 3 = wkT a (x + n) y := by
  simp only [wkK, wkT, smR_step]
/-- Where a walk may stand. -/
structure WkOk (a : Nat → Int) (x y : Int) : Prop where
  ad : AdOk a
  x0 : -1048576 ≤ x
  x1 : x ≤ 1048577
  y0 : -1048576 ≤ y
  y1 : y ≤ 1048576
theorem ln_st {p q r x y n : Int} (h : LnOk p q r) (hx : -1048577 ≤ x ∧ x ≤ 1048577) (hy : -1048576 ≤ y ∧ y ≤ 1048576) (hn : 0 ≤ n ∧ n ≤ 4194304) : StOk (smR p q r x y 1) p n := by
  obtain ⟨b0, b1⟩ := mulbd h.x0 h.x1 (show -1048577 ≤ x by omega) hx.2
  obtain ⟨b2, b3⟩ := mulbd h.y0 h.y1 hy.1 hy.2
  obtain ⟨b4, b5⟩ := mulbd h.x0 h.x1 (show -4194304 ≤ n by omega) hn.2
  have := h.x0
  have := h.x1
  have := h.z0
  have := h.z1
  refine ⟨⟨by omega, by omega⟩, ?_, ⟨by omega, by omega⟩, ?_⟩
  · unfold Wd smR; omega
  · unfold Wd smR; omega
theorem results_tmp3 {P : Program} {fn : Func} {p q r : Tmp} (h : fn.results = #[.tmp p, .tmp q, .tmp r]) (tmps : Array Value) (w : World) : (results fn tmps).run P w = .ok (.tuple #[tmps.getD p undef, tmps.getD q undef, tmps.getD r undef]) w := by
  simp [results, h]
theorem next_nil (w : World) : Calls Tryz.prog 76 #[.pointer none] w fun e w' => e = .returned (.tuple #[.int .i64 0, .int .i64 0, .int .i64 10]) ∧ w = w' := by
  go_enter_defers Tryz.func76, Tryz.ntmps76
  go_wp2_with fail
  exact ⟨_, results_tmp3 rfl _ _, rfl, rfl⟩
set_option maxRecDepth 100000 in
set_option maxHeartbeats 4000000 in
theorem next_far (a : Nat → Int) (g : Nat) (x y : Int) (w : World) (hK : Bk w g 132 (wkT a x y)) (hx : 1048576 < x) :
    Calls Tryz.prog 76 #[.pointer (some ⟨g, 0, none⟩)] w fun e w' => e = .returned (.tuple #[.int .i64 0, .int .i64 0, .int .i64 11]) ∧ w = w' := by
  obtain ⟨c0, c1, c2, c3, c4, c5, c6, c7, c8, c9, c10⟩ := hK.cell11
  go_enter_defers Tryz.func76, Tryz.ntmps76
  go_wp2_with fail
  exact ⟨_, results_tmp3 rfl _ _, rfl, rfl⟩
set_option maxRecDepth 100000 in
set_option maxHeartbeats 4000000 in
theorem next_any (a : Nat → Int) (g : Nat) (x y : Int) (w : World) (hK : Bk w g 132 (wkT a x y)) (h : WkOk a x y) (hx : x ≤ 1048576) :
    Calls Tryz.prog 76 #[.pointer (some ⟨g, 0, none⟩)] w fun e w' => e = .returned (.tuple #[.int .i64 (atX a x y 1), .int .i64 (atY a x y 1), .int .i64 (atE a x y 1)]) ∧ Bk w' g 132 (wkT a (x + 1) y) ∧ w.grownBy w' (some g) := by
  have hp : rightH x y 1 = true := rightH_iff.2 ⟨⟨h.x0, hx⟩, ⟨h.y0, h.y1⟩, by omega, by omega⟩
  have x0 := h.x0
  have su := ln_st h.ad.u (x := x) (y := y) (n := 1) ⟨by have := h.x0; omega, h.x1⟩ ⟨h.y0, h.y1⟩ (by omega)
  have sv := ln_st h.ad.v (x := x) (y := y) (n := 1) ⟨by have := h.x0; omega, h.x1⟩ ⟨h.y0, h.y1⟩ (by omega)
  have sb := ln_st h.ad.s (x := x) (y := y) (n := 1) ⟨by have := h.x0; omega, h.x1⟩ ⟨h.y0, h.y1⟩ (by omega)
  have hD := fun (w' : World) (hk : Bk w' g 132 (wkT a x y)) => wstep_d g x _ (a 0) _ (a 3) _ (a 6) 1 w' .returning hk (by unfold J64; omega) (by omega) su sv sb
  rw [wkK_3] at hD
  have hK0 := hK
  obtain ⟨c0, c1, c2, c3, c4, c5, c6, c7, c8, c9, c10⟩ := hK.cell11
  have hu : undR a x y 1 = smR (a 6) (a 7) (a 8) x y 1 := by unfold undR smR; rw [if_pos hp]
  have hj := und_j64 (px := x) (py := y) (d := 1) h.ad
  have q1 := sm_wq h.ad.u hp
  have q2 := sm_wq h.ad.v hp
  rw [← hu] at c7 c8
  have hF := fun w' => fits64_yes (undR a x y 1) w' hj
  clear su sv sb
  by_cases hz : undR a x y 1 = 0
  · have E1 : atX a x y 1 = 0 := by simp [atX, hz]
    have E2 : atY a x y 1 = 0 := by simp [atY, hz]
    have E3 : atE a x y 1 = 41 := by simp [atE, hp, hz]
    rw [E1, E2, E3]
    rw [hz] at hF c7 c8
    clear E1 E2 E3 hp hu hz hj q1 q2 h
    go_enter_defers Tryz.func76, Tryz.ntmps76
    go_wp2_with fail
    refine (hF _).mono ?_
    rintro e w1 ⟨rfl, hb1⟩
    replace hK := hK.nx hb1
    clear c0 c1 c2 c3 c4 c5 c6 c7 c8 c9 c10
    go_wp2_with fail
    refine leaves_cons (f := 77) (args := #[.pointer (some ⟨g, 0, none⟩), .int .i64 1]) (by simp) (by simp [go_sem]) ?_
    refine (hD _ hK).mono ?_
    rintro e u' w2 ⟨rfl, rfl, hK2, hg2⟩
    exact ⟨_, results_tmp3 rfl _ _, rfl, hK2, gb_trans (gb_of_below hb1) hg2 (fun g e => .inl e)⟩
  · have E1 : atX a x y 1 = plc (smR (a 0) (a 1) (a 2) x y 1) (undR a x y 1) := by simp [atX, hp, hz]
    have E2 : atY a x y 1 = plc (smR (a 3) (a 4) (a 5) x y 1) (undR a x y 1) := by simp [atY, hp, hz]
    have E3 : atE a x y 1 = 0 := by simp [atE, hp, hz]
    rw [E1, E2, E3]
    have hV1 := fun (w' : World) (hk : Bk w' g 132 (wkT a x y)) => over_any g 1 (smR (a 0) (a 1) (a 2) x y 1) (undR a x y 1) w' (hk.cell11).2.1 (hk.cell11).2.2.1 q1 hz hj
    have hV2 := fun (w' : World) (hk : Bk w' g 132 (wkT a x y)) => over_any g 4 (smR (a 3) (a 4) (a 5) x y 1) (undR a x y 1) w' (hk.cell11).2.2.2.2.1 (hk.cell11).2.2.2.2.2.1 q2 hz hj
    have hzb : (undR a x y 1 == 0) = false := by simpa using hz
    clear E1 E2 E3 hp hu hz hj q1 q2 h
    generalize plc (smR (a 0) (a 1) (a 2) x y 1) (undR a x y 1) = p1 at *
    generalize plc (smR (a 3) (a 4) (a 5) x y 1) (undR a x y 1) = p2 at *
    generalize undR a x y 1 = u at *
    go_enter_defers Tryz.func76, Tryz.ntmps76
    go_wp2_with fail
    refine (hF _).mono ?_
    rintro e w1 ⟨rfl, hb1⟩
    replace hK := hK.nx hb1
    clear c0 c1 c2 c3 c4 c5 c6 c7 c8 c9 c10
    go_upto_region 9 with fail
    have hW1 := fun (n : Nat) (os : Array Obj) => hV1 (Go.Sort.grow (redrawn w1 n) os) (hK.nx (below_regrown w1 n os))
    have hW2 := fun (n : Nat) (os : Array Obj) => hV2 (Go.Sort.grow (redrawn w1 n) os) (hK.nx (below_regrown w1 n os))
    refine wp_region_quiet_below (by kernel_rfl) (by kernel_rfl) ?_
    repeat (first | go_big_quiet_step ((first | with_reducible exact quiet_below (hW1 _ _) | with_reducible exact quiet_below (hW2 _ _))) | quiet_step ((first | with_reducible exact quiet_below (hW1 _ _) | with_reducible exact quiet_below (hW2 _ _))))
    refine wpQuiet_nil ?_
    intro _ hw'
    obtain ⟨⟨d9, os⟩, hw''⟩ := hw'
    subst hw''
    have hbx := below_regrown w1 d9 os
    replace hb1 := hb1.trans (hbx.mono hb1.size)
    replace hK := hK.nx hbx
    clear hW1 hW2 hV1 hV2
    generalize Go.Sort.grow (redrawn w1 d9) os = wx at *
    go_wp2_with fail
    refine leaves_cons (f := 77) (args := #[.pointer (some ⟨g, 0, none⟩), .int .i64 1]) (by simp) (by simp [go_sem]) ?_
    refine (hD _ hK).mono ?_
    rintro e u' w2 ⟨rfl, rfl, hK2, hg2⟩
    exact ⟨_, results_tmp3 rfl _ _, rfl, hK2, gb_trans (gb_of_below hb1) hg2 (fun g e => .inl e)⟩
end Go.Proofs.YtmnnilkdaibgkaaGreat
