/- Several texts in one: dda: a line's number at a place; where an axis begins. affine: Det, Lines. dda: New. -/
import Derived.Test.YtmnnilkdaibgkaaGreatQLate1
import Derived.Test.YtmnnilkdaibgkaaGreatK2
import Derived.BigRegion
import Derived.RegionTactic
import Derived.Test.YtmnnilkdaibgkaaGreatK3
import Derived.Test.YtmnnilkdaibgkaaGreatHdM
import Derived.Test.YtmnnilkdaibgkaaGreatKQ
section
set_option linter.unusedVariables false
namespace Go.Proofs.YtmnnilkdaibgkaaGreat
open Go.RowKit
theorem ddin_any (a : Int) (w : World) : Calls Tryz.prog 65 #[.int .i64 a] w fun e w' => e = .returned (.bool (inH a 1048576)) ∧ w = w' := by
  rw [inH_eq]
  by_cases h1 : -1048576 ≤ a
  all_goals
    go_enter Tryz.func65, Tryz.ntmps65
    go_wp2
    go_ret
    exact ⟨ret_bool (by simp [h1] <;> omega), rfl⟩
theorem wneg_any (z : Int) (w : World) (hz : Wd z) (hz2 : Wd (-z)) :
    Calls Tryz.prog 102 #[WV z] w fun e w' => e = .returned (.tuple #[WV (-z), .bool true]) ∧ Below w.heap.size w w' := by
  have hS := fun w' => wsub_any 0 z w' (by unfold Wd; omega) hz (by rw [Int.zero_sub]; exact hz2)
  have e0 : WV 0 = .agg #[.int .i64 0, .int .u64 0] := by show Value.agg #[.int .i64 (hi6 0), .int .u64 (lo6 0)] = _; rw [hi0, lo0]
  rw [e0, Int.zero_sub] at hS
  clear e0
  have hL := ((Lie.start w).alloc (wdA z) 113).alloc #[.int .i64 0, .int .u64 0] 113
  simp only [World.size_alloc] at hL
  clear hz hz2
  generalize hm : -z = m at *
  clear hm
  go_enter Tryz.func102, Tryz.ntmps102
  go_wp2_with (first | (go_at_call 128; (with_reducible refine (hS _).mono ?_); rintro e w1 ⟨rfl, hb1⟩; have hL1 := hL.nx hb1; have k1 : Bk w1 (w.heap.size + 1) 113 #[.int .i64 0, .int .u64 0] := hL1.k 0 (by simp)) | (refine stWd rfl _ _ rfl k1 rfl rfl rfl ?_; intro w8 k88 hg8 hs8))
  refine bodyPost_ret (res_wd_tmp rfl k88 rfl) rfl ?_
  exact ⟨rfl, below_of_gb hL1.bel hg8 (by omega) hL1.sz⟩
set_option maxRecDepth 100000 in
set_option maxHeartbeats 8000000 in
theorem dat_any (x y z px py : Int) (w : World) (h : LnOk x y z) (hp : rightH px py 1 = true) :
    Calls Tryz.prog 68 #[.agg (a3 x y z), .int .i64 px, .int .i64 py] w fun e w' => e = .returned (WV (smR x y z px py 1)) ∧ Below w.heap.size w w' := by
  obtain ⟨b0, b1, b2, b3, b4, b5, j1, j2, j3⟩ := sum_bd h hp
  rw [Int.mul_one] at b4 b5
  obtain ⟨x0, x1, y0, y1, z0, z1⟩ := h
  have hM1 := fun w' => wmul_any x px w' ⟨by omega, by omega⟩ j1
  have hM2 := fun w' => wmul_any y py w' ⟨by omega, by omega⟩ j2
  have hM3 := fun w' => wof_any z w' ⟨by omega, by omega⟩
  have hA1 := fun w' => wadd_any (x * px) (y * py) w' (by unfold Wd; omega) (by unfold Wd; omega) (by unfold Wd; omega)
  have hA2 := fun w' => wadd_any (x * px + y * py) z w' (by unfold Wd; omega) (by unfold Wd; omega) (by unfold Wd; omega)
  have HS := Lib.hid (show smR x y z px py 1 = x * px + y * py + z by unfold smR; rw [Int.mul_one])
  rw [← HS.out] at hA2
  clear b0 b1 b2 b3 b4 b5 j1 j2 j3 x0 x1 y0 y1 z0 z1 hp HS
  generalize smR x y z px py 1 = s at *
  generalize x * px + y * py = xy at *
  generalize x * px = xp at *
  generalize y * py = yp at *
  have hL := ((Lie.start w).alloc (a3 x y z) 108).alloc #[.int .i64 0, .int .u64 0] 113
  simp only [World.size_alloc] at hL
  go_enter Tryz.func68, Tryz.ntmps68
  go_wp2_with fail
  refine (hM1 _).mono ?_
  rintro e w1 ⟨rfl, hb1⟩
  have hw1z : w.heap.size + 1 < w1.heap.size := by have := hb1.size; simp at this; omega
  replace hL := (hL.nx hb1).alloc (wdA xp) 113
  clear hb1
  go_upto_region 2 with fail
  generalize w1.alloc (.cells (wdA xp) 113) = w2 at *
  have k4 : Bk w2 w.heap.size 108 (a3 x y z) := hL.k 2 (by simp)
  have k9 : Bk w2 w1.heap.size 113 (wdA xp) := hL.k 0 (by simp)
  have q1 := fun (d : Nat) (os : Array Obj) => cell_regrown (k4.cell3).2.1 d os
  refine wp_region_quiet_late 7 8 (by kernel_rfl) (by kernel_rfl) ?_
  simp only [List.take_succ_cons, List.take_zero]
  repeat (first | (refine wpQuiet_load rfl _ _ rfl k9 rfl Tryz.underlying113 rfl wd_size ?_; simp only [Act.put, List.setIfInBounds_toArray, List.set_cons_zero, List.set_cons_succ]) | go_big_quiet_step ((first | with_reducible exact quiet_below (hM2 _) | with_reducible exact quiet_below (hA1 _))) | quiet_step ((first | with_reducible exact quiet_below (hM2 _) | with_reducible exact quiet_below (hA1 _))))
  refine wpQuiet_nil ?_
  intro _ hw'
  obtain ⟨⟨d9, os⟩, hw''⟩ := hw'
  subst hw''
  have hbx := below_regrown w2 d9 os
  generalize Go.Sort.grow (redrawn w2 d9) os = wx at *
  have hLx := hL.nx hbx
  have k9x : Bk wx w1.heap.size 113 (wdA xp) := hLx.k 0 (by simp)
  show wpAny _ _ _ _ 3 _ _ _
  refine wpAny_ext (i := 7) _ _ _ _ _ rfl rfl rfl rfl rfl rfl (by kernel_rfl) (by kernel_rfl) (by kernel_rfl) (fun _ _ _ h => h) ?_
  refine wpAny_ext (i := 8) _ _ _ _ _ rfl rfl rfl rfl rfl rfl (by kernel_rfl) (by kernel_rfl) (by kernel_rfl) (fun _ _ _ h => h) ?_
  refine wpAny_tail 9 rfl (by kernel_rfl) ?_
  simp only [Act.put, List.setIfInBounds_toArray, List.set_cons_zero, List.set_cons_succ, List.drop_succ_cons, List.drop_zero, List.getElem_toArray, List.getElem_cons_succ, List.getElem_cons_zero]
  go_wp2_with (refine stWd rfl _ _ rfl k9x rfl rfl rfl ?_; intro w4 k9y hg4 hs4)
  have hL4 := hLx.set hg4 k9y (by omega) (by intro q hq; simp at hq; rcases hq with rfl | rfl <;> simp <;> omega)
  have k44 : Bk w4 w.heap.size 108 (a3 x y z) := hL4.k 2 (by simp)
  simp only [Act.put]
  have q2 := fun (d : Nat) (os : Array Obj) => cell_regrown (k44.cell3).2.2 d os
  refine wp_region_quiet_late 6 8 (by kernel_rfl) (by kernel_rfl) ?_
  simp only [List.take_succ_cons, List.take_zero]
  repeat (first | (refine wpQuiet_load rfl _ _ rfl k9y rfl Tryz.underlying113 rfl wd_size ?_; simp only [Act.put, List.setIfInBounds_toArray, List.set_cons_zero, List.set_cons_succ]) | go_big_quiet_step ((first | with_reducible exact quiet_below (hM3 _) | with_reducible exact quiet_below (hA2 _))) | quiet_step ((first | with_reducible exact quiet_below (hM3 _) | with_reducible exact quiet_below (hA2 _))))
  refine wpQuiet_nil ?_
  intro _ hw'
  obtain ⟨⟨d9, os⟩, hw''⟩ := hw'
  subst hw''
  have hbx := below_regrown w4 d9 os
  generalize Go.Sort.grow (redrawn w4 d9) os = wy at *
  have hLy := hL4.nx hbx
  have k9yx : Bk wy w1.heap.size 113 (wdA xy) := hLy.k 0 (by simp)
  show wpAny _ _ _ _ 3 _ _ _
  refine wpAny_ext (i := 6) _ _ _ _ _ rfl rfl rfl rfl rfl rfl (by kernel_rfl) (by kernel_rfl) (by kernel_rfl) (fun _ _ _ h => h) ?_
  refine wpAny_ext (i := 7) _ _ _ _ _ rfl rfl rfl rfl rfl rfl (by kernel_rfl) (by kernel_rfl) (by kernel_rfl) (fun _ _ _ h => h) ?_
  refine wpAny_tail 8 rfl (by kernel_rfl) ?_
  simp only [Act.put, List.setIfInBounds_toArray, List.set_cons_zero, List.set_cons_succ, List.drop_succ_cons, List.drop_zero, List.getElem_toArray, List.getElem_cons_succ, List.getElem_cons_zero]
  go_upto_region 4 with (refine stWd rfl _ _ rfl k9yx rfl rfl rfl ?_; intro w6 k9z hg6 hs6)
  have hL6 := hLy.set hg6 k9z (by omega) (by intro q hq; simp at hq; rcases hq with rfl | rfl <;> simp <;> omega)
  have k86 : Bk w6 (w.heap.size + 1) 113 #[.int .i64 0, .int .u64 0] := hL6.k 1 (by simp)
  obtain ⟨e0, e1⟩ := k9z.cell2
  go_wp2_with (refine stWd rfl _ _ rfl k86 rfl rfl rfl ?_; intro w8 k88 hg8 hs8)
  refine bodyPost_ret (res_wd rfl k88 rfl) rfl ?_
  exact ⟨rfl, below_of_gb hL6.bel hg8 (by omega) hL6.sz⟩
theorem dax_info : (Tryz.prog.info? 115).map (·.size) = some 7 := by kernel_rfl
/-- An axis' cells: the quotient, its growth, what is left over, its growth, the divisor. -/
abbrev dxC (q s l m b : Int) : Array Value := #[.int .i64 (hi6 q), .int .u64 (lo6 q), .int .i64 (hi6 s), .int .u64 (lo6 s), .int .i64 l, .int .i64 m, .int .i64 b]
/-- The axis that begins with f, grows by g, both divided by b. -/
def dxA (f g b : Int) : Array Value := dxC (fq (f * 65536) b) (fq (g * 65536) b) (fr (f * 65536) b) (fr (g * 65536) b) b
set_option maxRecDepth 100000 in
set_option maxHeartbeats 8000000 in
theorem dbegin_pos (f g b : Int) (w : World) (hb : 0 < b) (jb : J64 b) (jg : J64 g) (hf : Wd (f * 65536)) (hf2 : Wq (f * 65536)) (hg2 : Wq (g * 65536)) :
    Calls Tryz.prog 67 #[WV f, .int .i64 g, .int .i64 b] w fun e w' => e = .returned (.agg (dxA f g b)) ∧ Below w.heap.size w w' := by
  have hS := fun w' => shl16_any f w' hf
  have hW1 := fun w' => qwide_any (f * 65536) b w' hf2 (by omega) jb
  have hW2 := fun w' => qwide_any (g * 65536) b w' hg2 (by omega) jb
  have hM := fun w' => wmul_any g 65536 w' jg (by unfold J64; omega)
  unfold dxA
  have h0 : ¬ (b < 0) := by omega
  clear hb jb jg hf hf2 hg2
  generalize fq (f * 65536) b = q at *
  generalize fr (f * 65536) b = l at *
  generalize fq (g * 65536) b = s at *
  generalize fr (g * 65536) b = m at *
  generalize f * 65536 = F at *
  generalize g * 65536 = G at *
  have hL := ((Lie.start w).alloc (wdA f) 113).alloc #[.int .i64 0, .int .u64 0, .int .i64 0, .int .u64 0, .int .i64 0, .int .i64 0, .int .i64 0] 115
  simp only [World.size_alloc] at hL
  go_enter Tryz.func67, Tryz.ntmps67
  go_upto_region 4 with fail
  have hL2 := hL.alloc #[.int .i64 0, .int .u64 0, .int .i64 0, .int .u64 0, .int .i64 0, .int .i64 0, .int .i64 b] 115
  simp only [World.size_alloc] at hL2
  go_upto_region 5 with fail
  generalize ((w.alloc (.cells (wdA f) 113)).alloc (.cells #[.int .i64 0, .int .u64 0, .int .i64 0, .int .u64 0, .int .i64 0, .int .i64 0, .int .i64 0] 115)).alloc (.cells #[.int .i64 0, .int .u64 0, .int .i64 0, .int .u64 0, .int .i64 0, .int .i64 0, .int .i64 b] 115) = wz at *
  clear hL
  have k3 : Bk wz w.heap.size 113 (wdA f) := hL2.k 2 (by simp)
  go_upto_region 6 with (first
    | (refine ldWd rfl _ rfl k3 rfl ?_)
    | (go_at_call 103; (with_reducible refine (hS _).mono ?_); rintro e w1 ⟨rfl, hb1⟩; have hL3 := hL2.nx hb1; have k31 := k3.nx hb1)
    | (refine stWd rfl _ _ rfl k31 rfl rfl rfl ?_; intro w2 k32 hg2 hs2))
  have hL3' : Lie w [(w.heap.size, 113, wdA f), (w.heap.size + 1 + 1, 115, #[.int .i64 0, .int .u64 0, .int .i64 0, .int .u64 0, .int .i64 0, .int .i64 0, .int .i64 b]), (w.heap.size + 1, 115, #[.int .i64 0, .int .u64 0, .int .i64 0, .int .u64 0, .int .i64 0, .int .i64 0, .int .i64 0])] w1 := hL3.sub (by simp)
  have hL4 := hL3'.set hg2 k32 (by omega) (by intro x hx; simp at hx; rcases hx with rfl | rfl <;> simp <;> omega)
  clear hL3' hL3 hL2 k3 k31 hb1 hg2 hS k32
  have k4 : Bk w2 w.heap.size 113 (wdA F) := hL4.k 0 (by simp)
  have k7 : Bk w2 (w.heap.size + 1 + 1) 115 #[.int .i64 0, .int .u64 0, .int .i64 0, .int .u64 0, .int .i64 0, .int .i64 0, .int .i64 b] := hL4.k 1 (by simp)
  go_upto_region 7 with (first
    | (refine ldWd rfl _ rfl k4 rfl ?_)
    | (go_at_call 104; (with_reducible refine (hW1 _).mono ?_); rintro e w3 ⟨rfl, hb3⟩; have hL5 := hL4.nx hb3; have k73 := k7.nx hb3)
    | (refine st_two rfl _ _ _ rfl k73 0 (Nat.le_of_ble_eq_true rfl) (.int .i64 (hi6 q)) (.int .u64 (lo6 q)) rfl rfl wd_size rfl rfl ?_; intro w5 k75 hg5 hs5; have f5 := k75.frozen 4; have c5 : w5.cell? ⟨w.heap.size + 1 + 1, 4, none⟩ = some (.int .i64 0) := by rw [k75.cell]; rfl))
  have hL5' : Lie w [(w.heap.size + 1 + 1, 115, #[.int .i64 0, .int .u64 0, .int .i64 0, .int .u64 0, .int .i64 0, .int .i64 0, .int .i64 b]), (w.heap.size + 1, 115, #[.int .i64 0, .int .u64 0, .int .i64 0, .int .u64 0, .int .i64 0, .int .i64 0, .int .i64 0])] w3 := hL5.sub (by simp)
  have k76 : Bk (w5.setCell ⟨w.heap.size + 1 + 1, 4, none⟩ (.int .i64 l)) (w.heap.size + 1 + 1) 115 #[.int .i64 (hi6 q), .int .u64 (lo6 q), .int .i64 0, .int .u64 0, .int .i64 l, .int .i64 0, .int .i64 b] := k75.set 4 _
  have hL6 := hL5'.set (gb_trans hg5 (gb_set1 w5 ⟨w.heap.size + 1 + 1, 4, none⟩ (.int .i64 l)) (fun g e => .inl e)) k76 (by omega) (by intro x hx; simp at hx; rcases hx with rfl; simp)
  clear hL5' hL5 hL4 k4 k7 k73 hb3 hg5 hW1 k75 f5 c5
  generalize w5.setCell ⟨w.heap.size + 1 + 1, 4, none⟩ (.int .i64 l) = w6 at *
  go_upto_region 8 with (first
    | (go_at_call 105; (with_reducible refine (hM _).mono ?_); rintro e w7 ⟨rfl, hb7⟩; have hL7 := hL6.nx hb7; have k77 := k76.nx hb7)
    | (go_at_call 104; (with_reducible refine (hW2 _).mono ?_); rintro e w8 ⟨rfl, hb8⟩; have hL8 := hL7.nx hb8; have k78 := k77.nx hb8)
    | (refine st_two rfl _ _ _ rfl k78 2 (Nat.le_of_ble_eq_true rfl) (.int .i64 (hi6 s)) (.int .u64 (lo6 s)) rfl rfl wd_size rfl rfl ?_; intro w9 k79 hg9 hs9; have f9 := k79.frozen 5; have c9 : w9.cell? ⟨w.heap.size + 1 + 1, 5, none⟩ = some (.int .i64 0) := by rw [k79.cell]; rfl))
  have k80 : Bk (w9.setCell ⟨w.heap.size + 1 + 1, 5, none⟩ (.int .i64 m)) (w.heap.size + 1 + 1) 115 (dxC q s l m b) := k79.set 5 _
  have hL9 := hL8.set (gb_trans hg9 (gb_set1 w9 ⟨w.heap.size + 1 + 1, 5, none⟩ (.int .i64 m)) (fun g e => .inl e)) k80 (by omega) (by intro x hx; simp at hx; rcases hx with rfl; simp)
  clear hL6 hL7 hL8 k76 k77 k78 hb7 hb8 hg9 hW2 hM k79 f9 c9
  generalize w9.setCell ⟨w.heap.size + 1 + 1, 5, none⟩ (.int .i64 m) = wa at *
  have k6 : Bk wa (w.heap.size + 1) 115 #[.int .i64 0, .int .u64 0, .int .i64 0, .int .u64 0, .int .i64 0, .int .i64 0, .int .i64 0] := hL9.k 1 (by simp)
  go_wp2_with (first
    | (refine ldB rfl _ _ rfl k80 rfl Tryz.underlying115 rfl dax_info ?_)
    | (refine stB rfl 115 _ _ rfl k6 (dxC q s l m b) rfl rfl dax_info rfl (by simp [Value.oneCell']) ?_; intro wb k66 hgb hsb))
  refine bodyPost_ret (res_cell rfl k66 rfl Tryz.underlying115 rfl dax_info) rfl ?_
  exact ⟨rfl, below_of_gb hL9.bel hgb (by omega) hL9.sz⟩
set_option maxRecDepth 100000 in
set_option maxHeartbeats 8000000 in
theorem dbegin_neg (f0 g0 b0 : Int) (w : World) (hb : b0 < 0) (jb : J64 (-b0)) (jg : J64 (-g0)) (hf0 : Wd f0) (hfn : Wd (-f0)) (hf : Wd (-f0 * 65536)) (hf2 : Wq (-f0 * 65536)) (hg2 : Wq (-g0 * 65536)) :
    Calls Tryz.prog 67 #[WV f0, .int .i64 g0, .int .i64 b0] w fun e w' => e = .returned (.agg (dxA (-f0) (-g0) (-b0))) ∧ Below w.heap.size w w' := by
  have hNg := fun w' => wneg_any f0 w' hf0 hfn
  have hnb : (-b0 : Int) ≠ 0 := by omega
  obtain ⟨f, ef⟩ : ∃ f, -f0 = f := ⟨_, rfl⟩
  obtain ⟨g, eg⟩ : ∃ g, -g0 = g := ⟨_, rfl⟩
  obtain ⟨b, eb⟩ : ∃ b, -b0 = b := ⟨_, rfl⟩
  rw [ef] at hNg hf hf2 ⊢
  rw [eg] at jg hg2 ⊢
  rw [eb] at jb hnb ⊢
  have hwb : wrap64 (-b0) = b := by rw [IntWalk.wrap64_in _ ⟨by unfold J64 at jb; omega, by unfold J64 at jb; omega⟩]; exact eb
  have hwg : wrap64 (-g0) = g := by rw [IntWalk.wrap64_in _ ⟨by unfold J64 at jg; omega, by unfold J64 at jg; omega⟩]; exact eg
  have hS := fun w' => shl16_any f w' hf
  have hW1 := fun w' => qwide_any (f * 65536) b w' hf2 hnb jb
  have hW2 := fun w' => qwide_any (g * 65536) b w' hg2 hnb jb
  have hM := fun w' => wmul_any g 65536 w' jg (by unfold J64; omega)
  unfold dxA
  clear ef eg eb jb jg hf hf2 hg2 hf0 hfn hnb
  generalize fq (f * 65536) b = q at *
  generalize fr (f * 65536) b = l at *
  generalize fq (g * 65536) b = s at *
  generalize fr (g * 65536) b = m at *
  generalize f * 65536 = F at *
  generalize g * 65536 = G at *
  have hL := ((Lie.start w).alloc (wdA f0) 113).alloc #[.int .i64 0, .int .u64 0, .int .i64 0, .int .u64 0, .int .i64 0, .int .i64 0, .int .i64 0] 115
  simp only [World.size_alloc] at hL
  go_enter Tryz.func67, Tryz.ntmps67
  go_upto_region 2 with fail
  generalize hwx : (w.alloc (.cells (wdA f0) 113)).alloc (.cells #[.int .i64 0, .int .u64 0, .int .i64 0, .int .u64 0, .int .i64 0, .int .i64 0, .int .i64 0] 115) = wx at *
  have hzx : wx.heap.size = w.heap.size + 1 + 1 := by rw [← hwx]; simp
  clear hwx
  have hLs : Lie w [(w.heap.size, 113, wdA f0), (w.heap.size + 1, 115, #[.int .i64 0, .int .u64 0, .int .i64 0, .int .u64 0, .int .i64 0, .int .i64 0, .int .i64 0])] wx := hL.sub (by simp)
  have k0 : Bk wx w.heap.size 113 (wdA f0) := hLs.k 0 (by simp)
  clear hL
  go_upto_region 4 with (first
    | (refine ldWd rfl _ rfl k0 rfl ?_)
    | (go_at_call 102; (with_reducible refine (hNg _).mono ?_); rintro e wn ⟨rfl, hbn⟩; have hLn := hLs.nx hbn; have kn := k0.nx hbn)
    | (refine stWd rfl _ _ rfl kn rfl rfl rfl ?_; intro wm km hgm hsm))
  have hL := hLn.set hgm km (by omega) (by intro x hx; simp at hx; rcases hx with rfl; simp)
  obtain ⟨g7, hg7⟩ : ∃ g7, g7 = wn.heap.size := ⟨_, rfl⟩
  have hz7 : w.heap.size + 1 < g7 := by have := hbn.size; omega
  clear hLs hLn hgm km kn k0 hbn hNg
  have hL2 := hL.alloc #[.int .i64 0, .int .u64 0, .int .i64 0, .int .u64 0, .int .i64 0, .int .i64 0, .int .i64 b] 115
  rw [hsm, ← hg7] at hL2
  go_upto_region 5 with fail
  generalize wm.alloc (.cells #[.int .i64 0, .int .u64 0, .int .i64 0, .int .u64 0, .int .i64 0, .int .i64 0, .int .i64 b] 115) = wz at *
  rw [← hg7]
  clear hg7
  clear hL
  have k3 : Bk wz w.heap.size 113 (wdA f) := hL2.k 1 (by simp)
  go_upto_region 6 with (first
    | (refine ldWd rfl _ rfl k3 rfl ?_)
    | (go_at_call 103; (with_reducible refine (hS _).mono ?_); rintro e w1 ⟨rfl, hb1⟩; have hL3 := hL2.nx hb1; have k31 := k3.nx hb1)
    | (refine stWd rfl _ _ rfl k31 rfl rfl rfl ?_; intro w2 k32 hg2 hs2))
  have hL3' : Lie w [(w.heap.size, 113, wdA f), (g7, 115, #[.int .i64 0, .int .u64 0, .int .i64 0, .int .u64 0, .int .i64 0, .int .i64 0, .int .i64 b]), (w.heap.size + 1, 115, #[.int .i64 0, .int .u64 0, .int .i64 0, .int .u64 0, .int .i64 0, .int .i64 0, .int .i64 0])] w1 := hL3.sub (by simp)
  have hL4 := hL3'.set hg2 k32 (by omega) (by intro x hx; simp at hx; rcases hx with rfl | rfl <;> simp <;> omega)
  clear hL3' hL3 hL2 k3 k31 hb1 hg2 hS k32
  have k4 : Bk w2 w.heap.size 113 (wdA F) := hL4.k 0 (by simp)
  have k7 : Bk w2 (g7) 115 #[.int .i64 0, .int .u64 0, .int .i64 0, .int .u64 0, .int .i64 0, .int .i64 0, .int .i64 b] := hL4.k 1 (by simp)
  go_upto_region 7 with (first
    | (refine ldWd rfl _ rfl k4 rfl ?_)
    | (go_at_call 104; (with_reducible refine (hW1 _).mono ?_); rintro e w3 ⟨rfl, hb3⟩; have hL5 := hL4.nx hb3; have k73 := k7.nx hb3)
    | (refine st_two rfl _ _ _ rfl k73 0 (Nat.le_of_ble_eq_true rfl) (.int .i64 (hi6 q)) (.int .u64 (lo6 q)) rfl rfl wd_size rfl rfl ?_; intro w5 k75 hg5 hs5; have f5 := k75.frozen 4; have c5 : w5.cell? ⟨g7, 4, none⟩ = some (.int .i64 0) := by rw [k75.cell]; rfl))
  have hL5' : Lie w [(g7, 115, #[.int .i64 0, .int .u64 0, .int .i64 0, .int .u64 0, .int .i64 0, .int .i64 0, .int .i64 b]), (w.heap.size + 1, 115, #[.int .i64 0, .int .u64 0, .int .i64 0, .int .u64 0, .int .i64 0, .int .i64 0, .int .i64 0])] w3 := hL5.sub (by simp)
  have k76 : Bk (w5.setCell ⟨g7, 4, none⟩ (.int .i64 l)) (g7) 115 #[.int .i64 (hi6 q), .int .u64 (lo6 q), .int .i64 0, .int .u64 0, .int .i64 l, .int .i64 0, .int .i64 b] := k75.set 4 _
  have hL6 := hL5'.set (gb_trans hg5 (gb_set1 w5 ⟨g7, 4, none⟩ (.int .i64 l)) (fun g e => .inl e)) k76 (by omega) (by intro x hx; simp at hx; rcases hx with rfl; simp; omega)
  clear hL5' hL5 hL4 k4 k7 k73 hb3 hg5 hW1 k75 f5 c5
  generalize w5.setCell ⟨g7, 4, none⟩ (.int .i64 l) = w6 at *
  go_upto_region 8 with (first
    | (go_at_call 105; (with_reducible refine (hM _).mono ?_); rintro e w7 ⟨rfl, hb7⟩; have hL7 := hL6.nx hb7; have k77 := k76.nx hb7)
    | (go_at_call 104; (with_reducible refine (hW2 _).mono ?_); rintro e w8 ⟨rfl, hb8⟩; have hL8 := hL7.nx hb8; have k78 := k77.nx hb8)
    | (refine st_two rfl _ _ _ rfl k78 2 (Nat.le_of_ble_eq_true rfl) (.int .i64 (hi6 s)) (.int .u64 (lo6 s)) rfl rfl wd_size rfl rfl ?_; intro w9 k79 hg9 hs9; have f9 := k79.frozen 5; have c9 : w9.cell? ⟨g7, 5, none⟩ = some (.int .i64 0) := by rw [k79.cell]; rfl))
  have k80 : Bk (w9.setCell ⟨g7, 5, none⟩ (.int .i64 m)) (g7) 115 (dxC q s l m b) := k79.set 5 _
  have hL9 := hL8.set (gb_trans hg9 (gb_set1 w9 ⟨g7, 5, none⟩ (.int .i64 m)) (fun g e => .inl e)) k80 (by omega) (by intro x hx; simp at hx; rcases hx with rfl; simp; omega)
  clear hL6 hL7 hL8 k76 k77 k78 hb7 hb8 hg9 hW2 hM k79 f9 c9
  generalize w9.setCell ⟨g7, 5, none⟩ (.int .i64 m) = wa at *
  have k6 : Bk wa (w.heap.size + 1) 115 #[.int .i64 0, .int .u64 0, .int .i64 0, .int .u64 0, .int .i64 0, .int .i64 0, .int .i64 0] := hL9.k 1 (by simp)
  go_wp2_with (first
    | (refine ldB rfl _ _ rfl k80 rfl Tryz.underlying115 rfl dax_info ?_)
    | (refine stB rfl 115 _ _ rfl k6 (dxC q s l m b) rfl rfl dax_info rfl (by simp [Value.oneCell']) ?_; intro wb k66 hgb hsb))
  refine bodyPost_ret (res_cell rfl k66 rfl Tryz.underlying115 rfl dax_info) rfl ?_
  exact ⟨rfl, below_of_gb hL9.bel hgb (by omega) hL9.sz⟩
end Go.Proofs.YtmnnilkdaibgkaaGreat
end
section
set_option linter.unusedVariables false
namespace Go.Proofs.YtmnnilkdaibgkaaGreat
open Go.RowKit
theorem res_cellp {P : Program} {fn : Func} {p q : Tmp} {ty : TypeId} (h : fn.results = #[.cell p ty, .cell q ty]) {tmps : Array Value} {w : World} {g g2 : Nat} {t : TypeId} {cs cs2 : Array Value} (hK : Bk w g t cs) (hK2 : Bk w g2 t cs2) {d : TypeDesc}
    (hp : tmps.getD p undef = .pointer (some ⟨g, 0, none⟩)) (hq : tmps.getD q undef = .pointer (some ⟨g2, 0, none⟩)) (hu : P.underlying ty = some d) (hd : (match d with | .struct _ | .array _ _ => true | _ => false) = true) (hi : (P.info? ty).map (·.size) = some cs.size) (hi2 : cs2.size = cs.size := by rfl) :
    (results fn tmps).run P w = .ok (.tuple #[.agg cs, .agg cs2]) w := by
  have hp' : tmps[p]?.getD undef = .pointer (some ⟨g, 0, none⟩) := by simpa using hp
  have hq' : tmps[q]?.getD undef = .pointer (some ⟨g2, 0, none⟩) := by simpa using hq
  simp [results, h, hp', hq', asAddr, run_loadVar_row w g t ty cs (0, 0) d hK hu hd hi, run_loadVar_row w g2 t ty cs2 (0, 0) d hK2 hu hd (by rw [hi, hi2])]
theorem af7g {u0 u1 u2 u3 u4 u5 d : Int} {w : World} {g : Nat} (hK : Bk w g 147 #[.int .i64 u0, .int .i64 u1, .int .i64 u2, .int .i64 u3, .int .i64 u4, .int .i64 u5, .int .i64 d]) : w.cell? ⟨g, 0, none⟩ = some (.int .i64 u0) ∧ w.cell? ⟨g, 1, none⟩ = some (.int .i64 u1) ∧ w.cell? ⟨g, 2, none⟩ = some (.int .i64 u2) ∧ w.cell? ⟨g, 3, none⟩ = some (.int .i64 u3) ∧ w.cell? ⟨g, 4, none⟩ = some (.int .i64 u4) ∧ w.cell? ⟨g, 5, none⟩ = some (.int .i64 u5) ∧ w.cell? ⟨g, 6, none⟩ = some (.int .i64 d) :=
  ⟨by rw [hK.cell]; rfl, by rw [hK.cell]; rfl, by rw [hK.cell]; rfl, by rw [hK.cell]; rfl, by rw [hK.cell]; rfl, by rw [hK.cell]; rfl, by rw [hK.cell]; rfl⟩
theorem af7 {l : List Int} {w : World} {g : Nat} (hK : Bk w g 147 (afA l)) : w.cell? ⟨g, 0, none⟩ = some (.int .i64 (afU l 0)) ∧ w.cell? ⟨g, 1, none⟩ = some (.int .i64 (afU l 1)) ∧ w.cell? ⟨g, 2, none⟩ = some (.int .i64 (afU l 2)) ∧ w.cell? ⟨g, 3, none⟩ = some (.int .i64 (afU l 3)) ∧ w.cell? ⟨g, 4, none⟩ = some (.int .i64 (afU l 4)) ∧ w.cell? ⟨g, 5, none⟩ = some (.int .i64 (afU l 5)) ∧ w.cell? ⟨g, 6, none⟩ = some (.int .i64 (dtA l)) :=
  ⟨by rw [hK.cell]; rfl, by rw [hK.cell]; rfl, by rw [hK.cell]; rfl, by rw [hK.cell]; rfl, by rw [hK.cell]; rfl, by rw [hK.cell]; rfl, by rw [hK.cell]; rfl⟩
theorem adetv_any (l : List Int) (g : Nat) (w : World) (hK : Bk w g 147 (afA l)) :
    Calls Tryz.prog 69 #[.pointer (some ⟨g, 0, none⟩)] w fun e w' => e = .returned (.int .i64 (dtA l)) ∧ Below w.heap.size w w' := by
  obtain ⟨c0, c1, c2, c3, c4, c5, c6⟩ := af7 hK
  generalize dtA l = d at *
  clear c0 c1 c2 c3 c4 c5
  go_enter Tryz.func69, Tryz.ntmps69
  go_wp2_with fail
  go_returns
  exact ⟨rfl, Below.refl _ _⟩
set_option maxRecDepth 100000 in
set_option maxHeartbeats 4000000 in
theorem alines_gen (u0 u1 u2 u3 u4 u5 d : Int) (g : Nat) (w : World) (hK : Bk w g 147 #[.int .i64 u0, .int .i64 u1, .int .i64 u2, .int .i64 u3, .int .i64 u4, .int .i64 u5, .int .i64 d]) :
    Calls Tryz.prog 66 #[.pointer (some ⟨g, 0, none⟩)] w fun e w' => e = .returned (.tuple #[.agg (a3 u0 u1 u2), .agg (a3 u3 u4 u5)]) ∧ Below w.heap.size w w' := by
  have hL := ((Lie.start w).alloc (a3 0 0 0) 108).alloc (a3 0 0 0) 108
  simp only [World.size_alloc] at hL
  have hlt := hK.lt
  go_enter Tryz.func66, Tryz.ntmps66
  go_upto_region 3 with fail
  have hK3 := (hK.alloc (.cells (a3 0 0 0) 108)).alloc (.cells (a3 0 0 0) 108)
  generalize (w.alloc (.cells (a3 0 0 0) 108)).alloc (.cells (a3 0 0 0) 108) = w3 at *
  obtain ⟨c0, c1, c2, c3, c4, c5, c6⟩ := af7g hK3
  have k0 : Bk w3 w.heap.size 108 (a3 0 0 0) := hL.k 1 (by simp)
  have k1 : Bk w3 (w.heap.size + 1) 108 (a3 0 0 0) := hL.k 0 (by simp)
  obtain ⟨d0, d1, d2⟩ := k0.cell3
  obtain ⟨d3, d4, d5⟩ := k1.cell3
  have f0 := k0.frozen
  have f1 := k1.frozen
  have n0 : g ≠ w.heap.size := by omega
  have n1 : g ≠ w.heap.size + 1 := by omega
  go_region
  have b0 := (((((k0.set3 (.int .i64 u0) (.int .i64 u1) (.int .i64 u2)).far (p := ⟨w.heap.size + 1, 0, none⟩) (by simp) (.int .i64 u3)).far (p := ⟨w.heap.size + 1, 1, none⟩) (by simp) (.int .i64 u4)).far (p := ⟨w.heap.size + 1, 2, none⟩) (by simp) (.int .i64 u5))).drew
  have b1 := ((((k1.far (p := ⟨w.heap.size, 0, none⟩) (by simp) (.int .i64 u0)).far (p := ⟨w.heap.size, 1, none⟩) (by simp) (.int .i64 u1)).far (p := ⟨w.heap.size, 2, none⟩) (by simp) (.int .i64 u2)).set3 (.int .i64 u3) (.int .i64 u4) (.int .i64 u5)).drew
  have hbl : Below w.heap.size w _ := ((((((hL.bel.setCell (p := ⟨w.heap.size, 0, none⟩) (by simp) (.int .i64 u0)).setCell (p := ⟨w.heap.size, 1, none⟩) (by simp) (.int .i64 u1)).setCell (p := ⟨w.heap.size, 2, none⟩) (by simp) (.int .i64 u2)).setCell (p := ⟨w.heap.size + 1, 0, none⟩) (by simp) (.int .i64 u3)).setCell (p := ⟨w.heap.size + 1, 1, none⟩) (by simp) (.int .i64 u4)).setCell (p := ⟨w.heap.size + 1, 2, none⟩) (by simp) (.int .i64 u5))
  replace hbl := below_drewN hbl 1
  clear f0 f1 d0 d1 d2 d3 d4 d5 c0 c1 c2 c3 c4 c5 c6 k0 k1
  go_wp2_with fail
  refine bodyPost_ret (res_cellp rfl b0 b1 rfl rfl Tryz.underlying108 rfl a3_info) rfl ?_
  exact ⟨rfl, hbl⟩
theorem alines_any (l : List Int) (g : Nat) (w : World) (hK : Bk w g 147 (afA l)) :
    Calls Tryz.prog 66 #[.pointer (some ⟨g, 0, none⟩)] w fun e w' => e = .returned (.tuple #[.agg (a3 (afU l 0) (afU l 1) (afU l 2)), .agg (a3 (afU l 3) (afU l 4) (afU l 5))]) ∧ Below w.heap.size w w' := alines_gen _ _ _ _ _ _ (dtA l) g w hK
end Go.Proofs.YtmnnilkdaibgkaaGreat
end
section
set_option linter.unusedVariables false
namespace Go.Proofs.YtmnnilkdaibgkaaGreat
open Go.RowKit
theorem dbegin_any (p q r d x y : Int) (w : World) (h : LnOk p q r) (hd : d ≠ 0) (hd1 : -562949953421312 ≤ d ∧ d ≤ 562949953421312) (hx : -1048576 ≤ x ∧ x ≤ 1048576) (hy : -1048576 ≤ y ∧ y ≤ 1048576) :
    Calls Tryz.prog 67 #[WV (smR p q r x y 1), .int .i64 p, .int .i64 d] w fun e w' => e = .returned (.agg (dxC (fq (ddA p q r d x y) (dds d * d)) (fq (ddG p d) (dds d * d)) (fr (ddA p q r d x y) (dds d * d)) (fr (ddG p d) (dds d * d)) (dds d * d))) ∧ Below w.heap.size w w' := by
  have hA := ddA_bd (d := d) h hx hy
  have hG := ddG_bd (d := d) h
  obtain ⟨b0, b1, b2, b3, b4, b5, _⟩ := sum_bd h (rightH_iff.2 ⟨hx, hy, by omega, by omega⟩ : rightH x y 1 = true)
  have p0 := h.x0
  have p1 := h.x1
  have hs : -2417851639229258349412352 - 1152921504606846976 * 16 ≤ smR p q r x y 1 ∧ smR p q r x y 1 ≤ 2417851639229258349412352 + 1152921504606846976 * 16 := by unfold smR; omega
  by_cases hneg : d < 0
  · have e1 : dds d * d = -d := by unfold dds; rw [if_pos hneg]; omega
    have e2 : ddA p q r d x y = -smR p q r x y 1 * 65536 := by unfold ddA dds; rw [if_pos hneg]; omega
    have e3 : ddG p d = -p * 65536 := by unfold ddG dds; rw [if_pos hneg]; omega
    rw [e1, e2, e3]
    generalize smR p q r x y 1 = s at *
    exact dbegin_neg s p d w hneg (by unfold J64; omega) (by unfold J64; omega) (by unfold Wd; omega) (by unfold Wd; omega) (by unfold Wd; omega) (by unfold Wq; omega) (by unfold Wq; omega)
  · have e1 : dds d * d = d := by unfold dds; rw [if_neg hneg]; omega
    have e2 : ddA p q r d x y = smR p q r x y 1 * 65536 := by unfold ddA dds; rw [if_neg hneg]; omega
    have e3 : ddG p d = p * 65536 := by unfold ddG dds; rw [if_neg hneg]; omega
    rw [e1, e2, e3]
    generalize smR p q r x y 1 = s at *
    exact dbegin_pos s p d w (by omega) (by unfold J64; omega) (by unfold J64; omega) (by unfold Wd; omega) (by unfold Wq; omega) (by unfold Wq; omega)
set_option maxRecDepth 100000 in
set_option maxHeartbeats 8000000 in
theorem dnew_any (l : List Int) (A : Option Addr) (n cp : Nat) (x y : Int) (w : World) {B : Nat} (hl : l.length = n) (hr : Rd w B A (l.map (Value.int .i64))) (hB : B ≤ w.heap.size) (hC : afC l = 0) (hx : -1048576 ≤ x ∧ x ≤ 1048576) (hy : -1048576 ≤ y ∧ y ≤ 1048576) :
    Calls Tryz.prog 30 #[.slice A n cp, .int .i64 x, .int .i64 y] w fun e w' => ∃ g, e = .returned (.tuple #[.pointer (some ⟨g, 0, none⟩), .int .i64 0]) ∧ w.heap.size ≤ g ∧ Bk w' g 120 (ddT (afU l) (dtA l) x y) ∧ Below w.heap.size w w' := by
  have hN := anew_any l A n cp w hl hr hB
  obtain ⟨hok, hd⟩ := afC_zero.1 hC
  obtain ⟨ou, ov, d0, d1⟩ := afU_ok hok
  have hIx := fun w' => ddin_any x w'
  have hIy := fun w' => ddin_any y w'
  rw [inH_iff.2 hx] at hIx
  rw [inH_iff.2 hy] at hIy
  have hp : rightH x y 1 = true := rightH_iff.2 ⟨hx, hy, by omega, by omega⟩
  have hA1 := fun w' => dat_any _ _ _ x y w' ou hp
  have hA2 := fun w' => dat_any _ _ _ x y w' ov hp
  have hB1 := fun w' => dbegin_any _ _ _ (dtA l) x y w' ou hd ⟨d0, d1⟩ hx hy
  have hB2 := fun w' => dbegin_any _ _ _ (dtA l) x y w' ov hd ⟨d0, d1⟩ hx hy
  rw [hC] at hN
  simp only [AfR, hC] at hN
  have E : Hid (ddT (afU l) (dtA l) x y = dkA x (fq (ddA (afU l 0) (afU l 1) (afU l 2) (dtA l) x y) (dds (dtA l) * dtA l)) (fq (ddG (afU l 0) (dtA l)) (dds (dtA l) * dtA l)) (fr (ddA (afU l 0) (afU l 1) (afU l 2) (dtA l) x y) (dds (dtA l) * dtA l)) (fr (ddG (afU l 0) (dtA l)) (dds (dtA l) * dtA l)) (dds (dtA l) * dtA l) (fq (ddA (afU l 3) (afU l 4) (afU l 5) (dtA l) x y) (dds (dtA l) * dtA l)) (fq (ddG (afU l 3) (dtA l)) (dds (dtA l) * dtA l)) (fr (ddA (afU l 3) (afU l 4) (afU l 5) (dtA l) x y) (dds (dtA l) * dtA l)) (fr (ddG (afU l 3) (dtA l)) (dds (dtA l) * dtA l)) (dds (dtA l) * dtA l)) := rfl
  have hLn := fun (g : Nat) (w' : World) (hk : Bk w' g 147 (afA l)) => alines_any l g w' hk
  have hDt := fun (g : Nat) (w' : World) (hk : Bk w' g 147 (afA l)) => adetv_any l g w' hk
  clear hl hr hC hok hd ou ov d0 d1 hp
  generalize ddT (afU l) (dtA l) x y = WT at *
  generalize fq (ddA (afU l 0) (afU l 1) (afU l 2) (dtA l) x y) (dds (dtA l) * dtA l) = q1 at *
  generalize fq (ddA (afU l 3) (afU l 4) (afU l 5) (dtA l) x y) (dds (dtA l) * dtA l) = q2 at *
  generalize fr (ddA (afU l 0) (afU l 1) (afU l 2) (dtA l) x y) (dds (dtA l) * dtA l) = l1 at *
  generalize fr (ddA (afU l 3) (afU l 4) (afU l 5) (dtA l) x y) (dds (dtA l) * dtA l) = l2 at *
  generalize fq (ddG (afU l 0) (dtA l)) (dds (dtA l) * dtA l) = s1 at *
  generalize fq (ddG (afU l 3) (dtA l)) (dds (dtA l) * dtA l) = s2 at *
  generalize fr (ddG (afU l 0) (dtA l)) (dds (dtA l) * dtA l) = m1 at *
  generalize fr (ddG (afU l 3) (dtA l)) (dds (dtA l) * dtA l) = m2 at *
  generalize dds (dtA l) * dtA l = b at *
  generalize smR (afU l 0) (afU l 1) (afU l 2) x y 1 = r1 at *
  generalize smR (afU l 3) (afU l 4) (afU l 5) x y 1 = r2 at *
  generalize afA l = aa at *
  generalize dtA l = dt at *
  generalize afU l 0 = u0 at *
  generalize afU l 1 = u1 at *
  generalize afU l 2 = u2 at *
  generalize afU l 3 = u3 at *
  generalize afU l 4 = u4 at *
  generalize afU l 5 = u5 at *
  go_enter Tryz.func30, Tryz.ntmps30
  go_wp2_with fail
  refine hN.mono ?_
  rintro e w1 ⟨p, rfl, ⟨_, hR⟩, hb1⟩
  obtain ⟨g, rfl, hg, hK⟩ := hR (by trivial)
  clear hR hN
  go_wp2_with (first
    | (go_at_call 65; (with_reducible refine (hIx _).mono ?_); rintro e w2 ⟨rfl, rfl⟩)
    | (go_at_call 65; (with_reducible refine (hIy _).mono ?_); rintro e w2 ⟨rfl, rfl⟩))
  refine (hLn _ _ hK).mono ?_
  rintro e w2 ⟨rfl, hb2⟩
  replace hK := hK.nx hb2
  replace hb2 := hb1.trans (hb2.mono hb1.size)
  clear hLn hb1
  have hL := ((Lie.start w2).alloc (a3 u0 u1 u2) 108).alloc (a3 u3 u4 u5) 108
  simp only [World.size_alloc] at hL
  replace hK := (hK.alloc (.cells (a3 u0 u1 u2) 108)).alloc (.cells (a3 u3 u4 u5) 108)
  go_upto_region 7 with fail
  generalize (w2.alloc (.cells #[.int .i64 u0, .int .i64 u1, .int .i64 u2] 108)).alloc (.cells #[.int .i64 u3, .int .i64 u4, .int .i64 u5] 108) = w3 at *
  have k0 : Bk w3 w2.heap.size 108 (a3 u0 u1 u2) := hL.k 1 (by simp)
  have k1 : Bk w3 (w2.heap.size + 1) 108 (a3 u3 u4 u5) := hL.k 0 (by simp)
  have hb3 := hb2.trans (hL.bel.mono hb2.size)
  have q0 := fun (d : Nat) (os : Array Obj) => cell_regrown (k0.cell3).1 d os
  have q3 := fun (d : Nat) (os : Array Obj) => cell_regrown (k1.cell3).1 d os
  have hDx := fun (n : Nat) (os : Array Obj) => hDt g (Go.Sort.grow (redrawn w3 n) os) (hK.nx (below_regrown w3 n os))
  refine wp_region_quiet_tail 19 (by kernel_rfl) (by kernel_rfl) ?_
  simp only [List.take_succ_cons, List.take_zero, List.drop_succ_cons, List.drop_zero]
  repeat (first | (refine wpQuiet_load rfl _ _ rfl k0 rfl Tryz.underlying108 rfl a3_info ?_; simp only [Act.put, List.setIfInBounds_toArray, List.set_cons_zero, List.set_cons_succ]) | (refine wpQuiet_load rfl _ _ rfl k1 rfl Tryz.underlying108 rfl a3_info ?_; simp only [Act.put, List.setIfInBounds_toArray, List.set_cons_zero, List.set_cons_succ]) | go_big_quiet_step ((first | with_reducible exact quiet_below (hA1 _) | with_reducible exact quiet_below (hA2 _) | with_reducible exact quiet_below (hDx _ _) | with_reducible exact quiet_below (hB1 _) | with_reducible exact quiet_below (hB2 _))) | quiet_step ((first | with_reducible exact quiet_below (hA1 _) | with_reducible exact quiet_below (hA2 _) | with_reducible exact quiet_below (hDx _ _) | with_reducible exact quiet_below (hB1 _) | with_reducible exact quiet_below (hB2 _))))
  refine wpQuiet_nil ?_
  intro _ hw'
  obtain ⟨⟨d, os⟩, hw''⟩ := hw'
  subst hw''
  have hbx := hb3.trans ((below_regrown w3 d os).mono hb3.size)
  generalize Go.Sort.grow (redrawn w3 d) os = wx at *
  go_wp2_with fail
  go_returns
  refine ⟨_, rfl, hbx.size, ?_, hbx.alloc hbx.size _⟩
  rw [E.out]
  exact Bk.new wx _ _
end Go.Proofs.YtmnnilkdaibgkaaGreat
end
