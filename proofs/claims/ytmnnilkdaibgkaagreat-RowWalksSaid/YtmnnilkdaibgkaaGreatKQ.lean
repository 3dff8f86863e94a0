/- Several texts in one: A number that grows by the same in each step, its quotient and what is left over: plain. dda: an axis goes a step on. (Printed by wip/tools/gendd.py.) dda: an axis goes many steps on. (Printed by wip/tools/gendd4.py.) dda, plain: what a walk's axes are at each column. dda: Next and Skip of a walk. -/
import Derived.Test.YtmnnilkdaibgkaaGreatBase
import Derived.Test.YtmnnilkdaibgkaaGreatQLate1
import Derived.Test.YtmnnilkdaibgkaaGreatK2
import Derived.Test.YtmnnilkdaibgkaaGreatK1
import Derived.BigRegion
import Derived.RegionTactic
import Derived.Test.YtmnnilkdaibgkaaGreatK3
section
set_option linter.unusedVariables false
namespace Go.Proofs.YtmnnilkdaibgkaaGreat
/-- One step: the quotient, and what is left over. -/
theorem dd_next {A B by' : Int} (h : 0 < by') : (by' ≤ A % by' + B % by' → (A + B) / by' = A / by' + B / by' + 1 ∧ (A + B) % by' = A % by' + B % by' - by') ∧ (A % by' + B % by' < by' → (A + B) / by' = A / by' + B / by' ∧ (A + B) % by' = A % by' + B % by') := by
  have e1 := Int.emod_add_mul_ediv A by'
  have e2 := Int.emod_add_mul_ediv B by'
  have a0 := Int.emod_nonneg A (show by' ≠ 0 by omega)
  have a1 := Int.emod_lt_of_pos A h
  have b0 := Int.emod_nonneg B (show by' ≠ 0 by omega)
  have b1 := Int.emod_lt_of_pos B h
  constructor
  · intro hl
    have e3 : A + B = (A % by' + B % by' - by') + (A / by' + B / by' + 1) * by' := by grind
    constructor
    · rw [e3, Int.add_mul_ediv_right _ _ (by omega), Int.ediv_eq_zero_of_lt (by omega) (by omega)]; omega
    · rw [e3, Int.add_mul_emod_self_right]; exact Int.emod_eq_of_lt (by omega) (by omega)
  · intro hl
    have e3 : A + B = (A % by' + B % by') + (A / by' + B / by') * by' := by grind
    constructor
    · rw [e3, Int.add_mul_ediv_right _ _ (by omega), Int.ediv_eq_zero_of_lt (by omega) (by omega)]; omega
    · rw [e3, Int.add_mul_emod_self_right]; exact Int.emod_eq_of_lt (by omega) (by omega)
/-- n steps at once. -/
theorem dd_skip {A B n by' : Int} (h : 0 < by') : (A + n * B) / by' = A / by' + n * (B / by') + (n * (B % by') + A % by') / by' ∧ (A + n * B) % by' = (n * (B % by') + A % by') % by' := by
  have e1 := Int.emod_add_mul_ediv A by'
  have e2 := Int.emod_add_mul_ediv B by'
  have e3 : A + n * B = (n * (B % by') + A % by') + (A / by' + n * (B / by')) * by' := by grind
  constructor
  · rw [e3, Int.add_mul_ediv_right _ _ (by omega)]; omega
  · rw [e3, Int.add_mul_emod_self_right]
end Go.Proofs.YtmnnilkdaibgkaaGreat
end
section
set_option linter.unusedVariables false
namespace Go.Proofs.YtmnnilkdaibgkaaGreat
open Go.RowKit
/-- A walk's cells: where it stands, and of both axes the quotient, its growth, what is left over, its growth, and the divisor. -/
abbrev dkA (x qu su lu mu bu qv sv lv mv bv : Int) : Array Value := #[.int .i64 x, .int .i64 (hi6 qu), .int .u64 (lo6 qu), .int .i64 (hi6 su), .int .u64 (lo6 su), .int .i64 lu, .int .i64 mu, .int .i64 bu, .int .i64 (hi6 qv), .int .u64 (lo6 qv), .int .i64 (hi6 sv), .int .u64 (lo6 sv), .int .i64 lv, .int .i64 mv, .int .i64 bv]
theorem Bk.cell15 {w : World} {g : Nat} {t : TypeId} {v0 v1 v2 v3 v4 v5 v6 v7 v8 v9 v10 v11 v12 v13 v14 : Value} (h : Bk w g t #[v0, v1, v2, v3, v4, v5, v6, v7, v8, v9, v10, v11, v12, v13, v14]) :
    w.cell? ⟨g, 0, none⟩ = some v0 ∧ w.cell? ⟨g, 1, none⟩ = some v1 ∧ w.cell? ⟨g, 2, none⟩ = some v2 ∧ w.cell? ⟨g, 3, none⟩ = some v3 ∧ w.cell? ⟨g, 4, none⟩ = some v4 ∧ w.cell? ⟨g, 5, none⟩ = some v5 ∧ w.cell? ⟨g, 6, none⟩ = some v6 ∧ w.cell? ⟨g, 7, none⟩ = some v7 ∧ w.cell? ⟨g, 8, none⟩ = some v8 ∧ w.cell? ⟨g, 9, none⟩ = some v9 ∧ w.cell? ⟨g, 10, none⟩ = some v10 ∧ w.cell? ⟨g, 11, none⟩ = some v11 ∧ w.cell? ⟨g, 12, none⟩ = some v12 ∧ w.cell? ⟨g, 13, none⟩ = some v13 ∧ w.cell? ⟨g, 14, none⟩ = some v14 :=
  ⟨by rw [h.cell]; rfl, by rw [h.cell]; rfl, by rw [h.cell]; rfl, by rw [h.cell]; rfl, by rw [h.cell]; rfl, by rw [h.cell]; rfl, by rw [h.cell]; rfl, by rw [h.cell]; rfl, by rw [h.cell]; rfl, by rw [h.cell]; rfl, by rw [h.cell]; rfl, by rw [h.cell]; rfl, by rw [h.cell]; rfl, by rw [h.cell]; rfl, by rw [h.cell]; rfl⟩
/-- What an axis is after a step. -/
def nxQ (q s l m b : Int) : Int := if b ≤ l + m then q + s + 1 else q + s
def nxL (l m b : Int) : Int := if b ≤ l + m then l + m - b else l + m
/-- The numbers have room for a step. -/
structure DxOk (q s l m b : Int) : Prop where
  hq : Wd q
  hs : Wd s
  hqs : Wd (q + s)
  hqs1 : Wd (q + s + 1)
  hl : 0 ≤ l ∧ l < b
  hm : 0 ≤ m ∧ m < b
  hb : 1 ≤ b ∧ b ≤ 4611686018427387904
set_option maxRecDepth 100000 in
set_option maxHeartbeats 8000000 in
theorem anext_u (g : Nat) (x qu su lu mu bu qv sv lv mv bv : Int) (w : World) (hK : Bk w g 120 (dkA x qu su lu mu bu qv sv lv mv bv)) (h : DxOk qu su lu mu bu) :
    Calls Tryz.prog 70 #[.pointer (some ⟨g, 1, none⟩)] w fun e w' => e = .returned (.int .i64 (cutF qu)) ∧ Bk w' g 120 (dkA x (nxQ qu su lu mu bu) su (nxL lu mu bu) mu bu qv sv lv mv bv) ∧ w.grownBy w' (some g) := by
  have hCut := fun w' => qcut_any qu w' h.hq
  have hA := fun w' => wadd_any qu su w' h.hq h.hs h.hqs
  have hA1 := fun w' => wadd_any (qu + su) 1 w' h.hqs (by unfold Wd; decide) h.hqs1
  have hOf := fun w' => wof_any 1 w' (by unfold J64; decide)
  obtain ⟨l0, l1⟩ := h.hl
  obtain ⟨m0, m1⟩ := h.hm
  obtain ⟨b0, b1⟩ := h.hb
  have HQ1 : bu ≤ lu + mu → Hid (nxQ qu su lu mu bu = qu + su + 1 ∧ nxL lu mu bu = lu + mu - bu) := fun h => ⟨by unfold nxQ; rw [if_pos h], by unfold nxL; rw [if_pos h]⟩
  have HQ2 : lu + mu < bu → Hid (nxQ qu su lu mu bu = qu + su ∧ nxL lu mu bu = lu + mu) := fun h => ⟨by unfold nxQ; rw [if_neg (by omega)], by unfold nxL; rw [if_neg (by omega)]⟩
  have c := hK.cell15
  obtain ⟨c0, c1, c2, c3, c4, c5, c6, c7, c8, c9, c10, c11, c12, c13, c14⟩ := c
  clear h
  generalize cutF qu = cu at *
  go_enter Tryz.func70, Tryz.ntmps70
  go_upto_region 2 with (first
    | (go_at_call 108; (with_reducible refine (hCut _).mono ?_); rintro e w1 ⟨rfl, hb1⟩))
  have hK1 := hK.nx hb1
  have hg1 := gb_of_below (row := some g) hb1
  clear c0 c1 c2 c3 c4 c5 c6 c7 c8 c9 c10 c11 c12 c13 c14 hCut
  obtain ⟨c0, c1, c2, c3, c4, c5, c6, c7, c8, c9, c10, c11, c12, c13, c14⟩ := hK1.cell15
  have q0 := fun (d : Nat) (os : Array Obj) => cell_regrown c1 d os
  have q1 := fun (d : Nat) (os : Array Obj) => cell_regrown c2 d os
  have q2 := fun (d : Nat) (os : Array Obj) => cell_regrown c3 d os
  have q3 := fun (d : Nat) (os : Array Obj) => cell_regrown c4 d os
  refine wp_region_quiet_late1 11 10 (.tmp 0) (by kernel_rfl) rfl rfl (by kernel_rfl) (fun _ _ _ h => h) ?_
  simp only [List.take_succ_cons, List.take_zero]
  repeat (first | go_big_quiet_step (with_reducible exact quiet_below (hA _)) | quiet_step (with_reducible exact quiet_below (hA _)))
  refine wpQuiet_nil ?_
  intro _ hw'
  obtain ⟨⟨d9, os⟩, hw''⟩ := hw'
  subst hw''
  have hbx := below_regrown w1 d9 os
  generalize Go.Sort.grow (redrawn w1 d9) os = w2 at *
  have hK2 := hK1.nx hbx
  have hg2 := gb_trans hg1 (gb_of_below hbx) (fun g e => .inl e)
  clear c0 c1 c2 c3 c4 c5 c6 c7 c8 c9 c10 c11 c12 c13 c14 q0 q1 q2 q3 hA hbx
  show wpAny _ _ _ _ 5 _ _ _
  refine wpAny_ext (i := 11) _ _ _ _ _ rfl rfl rfl rfl rfl rfl (by kernel_rfl) (by kernel_rfl) (by kernel_rfl) (fun _ _ _ h => h) ?_
  refine wpAny_ext (i := 12) _ _ _ _ _ rfl rfl rfl rfl rfl rfl (by kernel_rfl) (by kernel_rfl) (by kernel_rfl) (fun _ _ _ h => h) ?_
  refine wpAny_tail 13 rfl (by kernel_rfl) ?_
  simp only [Act.put, List.setIfInBounds_toArray, List.set_cons_zero, List.set_cons_succ, List.drop_succ_cons, List.drop_zero, List.getElem_toArray, List.getElem_cons_succ, List.getElem_cons_zero]
  go_upto_region 3 with (refine st_two rfl _ _ _ rfl hK2 1 (Nat.le_of_ble_eq_true rfl) (.int .i64 (hi6 (qu + su))) (.int .u64 (lo6 (qu + su))) rfl rfl wd_size rfl rfl ?_; intro w3 k3 hg3 hs3)
  have k3a : Bk w3 g 120 (dkA x (qu + su) su (lu) mu bu qv sv lv mv bv) := k3
  have hg3a := gb_trans hg2 hg3 (fun g e => .inl e)
  clear k3 hg3 hg2 hg1 hK1 hK2 hK
  obtain ⟨c0, c1, c2, c3, c4, c5, c6, c7, c8, c9, c10, c11, c12, c13, c14⟩ := k3a.cell15
  have f3 := k3a.frozen 5
  have hwa : IntKind.i64.wrap (lu + mu) = lu + mu := IntWalk.i64_in _ ⟨by omega, by omega⟩
  go_upto_region 3 with fail
  try simp only [Act.put]
  go_cut [32] (fun p wx => p = .int .i64 (lu + mu) ∧ Bk wx g 120 (dkA x (qu + su) su (lu + mu) mu bu qv sv lv mv bv) ∧ w.grownBy wx (some g))
  case first =>
    go_region
    all_goals
      go_wp2_with fail
      go_meet
      exact ⟨rfl, (k3a.set 5 _).drew, gb_drew (gb_trans hg3a (gb_set1 w3 ⟨g, 5, none⟩ (.int .i64 (lu + mu))) (fun g e => .inl e))⟩
  case rest =>
    obtain ⟨rfl, k4, hg4⟩ := hcut
    clear c0 c1 c2 c3 c4 c5 c6 c7 c8 c9 c10 c11 c12 c13 c14 f3 k3a hg3a
    obtain ⟨c0, c1, c2, c3, c4, c5, c6, c7, c8, c9, c10, c11, c12, c13, c14⟩ := k4.cell15
    have f4 := k4.frozen 5
    rcases Int.lt_or_le (lu + mu) bu with hlt | hge
    · have HE := HQ2 hlt
      clear HQ1 HQ2
      go_upto_region 4 with fail
      go_region
      go_wp2_with fail
      go_returns
      rw [HE.out.1, HE.out.2]
      exact ⟨rfl, k4.drew, gb_drew hg4⟩
    · have HE := HQ1 hge
      clear HQ1 HQ2
      have hws : IntKind.i64.wrap (lu + mu - bu) = lu + mu - bu := IntWalk.i64_in _ ⟨by omega, by omega⟩
      go_upto_region 4 with fail
      go_region
      go_upto_region 5 with fail
      go_cut [52] (fun p wx => p = .int .i64 (lu + mu - bu) ∧ Bk wx g 120 (dkA x (qu + su) su (lu + mu - bu) mu bu qv sv lv mv bv) ∧ w.grownBy wx (some g))
      case first =>
        go_region
        all_goals
          go_wp2_with fail
          go_meet
          exact ⟨rfl, (k4.drew.set 5 _).drew, gb_drew (gb_trans (gb_drew hg4) (gb_set1 _ ⟨g, 5, none⟩ (.int .i64 (lu + mu - bu))) (fun g e => .inl e))⟩
      case rest =>
        obtain ⟨rfl, k5, hg5⟩ := hcut
        clear c0 c1 c2 c3 c4 c5 c6 c7 c8 c9 c10 c11 c12 c13 c14 f4 k4 hg4 
        obtain ⟨c0, c1, c2, c3, c4, c5, c6, c7, c8, c9, c10, c11, c12, c13, c14⟩ := k5.cell15
        have q0 := fun (d : Nat) (os : Array Obj) => cell_regrown c1 d os
        have q1 := fun (d : Nat) (os : Array Obj) => cell_regrown c2 d os
        go_upto_region 6 with fail
        refine wp_region_quiet_late1 8 10 (.tmp 0) (by kernel_rfl) rfl rfl (by kernel_rfl) (fun _ _ _ h => h) ?_
        simp only [List.take_succ_cons, List.take_zero]
        repeat (first | go_big_quiet_step ((first | with_reducible exact quiet_below (hOf _) | with_reducible exact quiet_below (hA1 _))) | quiet_step ((first | with_reducible exact quiet_below (hOf _) | with_reducible exact quiet_below (hA1 _))))
        refine wpQuiet_nil ?_
        intro _ hw'
        obtain ⟨⟨d8, oz⟩, hw''⟩ := hw'
        subst hw''
        have hbx := below_regrown wc d8 oz
        generalize Go.Sort.grow (redrawn wc d8) oz = w6 at *
        have hK6 := k5.nx hbx
        have hg6 := gb_trans hg5 (gb_of_below hbx) (fun g e => .inl e)
        show wpAny _ _ _ _ 5 _ _ _
        refine wpAny_ext (i := 8) _ _ _ _ _ rfl rfl rfl rfl rfl rfl (by kernel_rfl) (by kernel_rfl) (by kernel_rfl) (fun _ _ _ h => h) ?_
        refine wpAny_ext (i := 9) _ _ _ _ _ rfl rfl rfl rfl rfl rfl (by kernel_rfl) (by kernel_rfl) (by kernel_rfl) (fun _ _ _ h => h) ?_
        refine wpAny_tail 10 rfl (by kernel_rfl) ?_
        simp only [Act.put, List.setIfInBounds_toArray, List.set_cons_zero, List.set_cons_succ, List.drop_succ_cons, List.drop_zero, List.getElem_toArray, List.getElem_cons_succ, List.getElem_cons_zero]
        go_wp2_with (refine st_two rfl _ _ _ rfl hK6 1 (Nat.le_of_ble_eq_true rfl) (.int .i64 (hi6 (qu + su + 1))) (.int .u64 (lo6 (qu + su + 1))) rfl rfl wd_size rfl rfl ?_; intro w7 k7 hg7 hs7)
        go_returns
        rw [HE.out.1, HE.out.2]
        exact ⟨rfl, k7, gb_trans hg6 hg7 (fun g e => .inl e)⟩
set_option maxRecDepth 100000 in
set_option maxHeartbeats 8000000 in
theorem anext_v (g : Nat) (x qu su lu mu bu qv sv lv mv bv : Int) (w : World) (hK : Bk w g 120 (dkA x qu su lu mu bu qv sv lv mv bv)) (h : DxOk qv sv lv mv bv) :
    Calls Tryz.prog 70 #[.pointer (some ⟨g, 8, none⟩)] w fun e w' => e = .returned (.int .i64 (cutF qv)) ∧ Bk w' g 120 (dkA x qu su lu mu bu (nxQ qv sv lv mv bv) sv (nxL lv mv bv) mv bv) ∧ w.grownBy w' (some g) := by
  have hCut := fun w' => qcut_any qv w' h.hq
  have hA := fun w' => wadd_any qv sv w' h.hq h.hs h.hqs
  have hA1 := fun w' => wadd_any (qv + sv) 1 w' h.hqs (by unfold Wd; decide) h.hqs1
  have hOf := fun w' => wof_any 1 w' (by unfold J64; decide)
  obtain ⟨l0, l1⟩ := h.hl
  obtain ⟨m0, m1⟩ := h.hm
  obtain ⟨b0, b1⟩ := h.hb
  have HQ1 : bv ≤ lv + mv → Hid (nxQ qv sv lv mv bv = qv + sv + 1 ∧ nxL lv mv bv = lv + mv - bv) := fun h => ⟨by unfold nxQ; rw [if_pos h], by unfold nxL; rw [if_pos h]⟩
  have HQ2 : lv + mv < bv → Hid (nxQ qv sv lv mv bv = qv + sv ∧ nxL lv mv bv = lv + mv) := fun h => ⟨by unfold nxQ; rw [if_neg (by omega)], by unfold nxL; rw [if_neg (by omega)]⟩
  have c := hK.cell15
  obtain ⟨c0, c1, c2, c3, c4, c5, c6, c7, c8, c9, c10, c11, c12, c13, c14⟩ := c
  clear h
  generalize cutF qv = cu at *
  go_enter Tryz.func70, Tryz.ntmps70
  go_upto_region 2 with (first
    | (go_at_call 108; (with_reducible refine (hCut _).mono ?_); rintro e w1 ⟨rfl, hb1⟩))
  have hK1 := hK.nx hb1
  have hg1 := gb_of_below (row := some g) hb1
  clear c0 c1 c2 c3 c4 c5 c6 c7 c8 c9 c10 c11 c12 c13 c14 hCut
  obtain ⟨c0, c1, c2, c3, c4, c5, c6, c7, c8, c9, c10, c11, c12, c13, c14⟩ := hK1.cell15
  have q0 := fun (d : Nat) (os : Array Obj) => cell_regrown c8 d os
  have q1 := fun (d : Nat) (os : Array Obj) => cell_regrown c9 d os
  have q2 := fun (d : Nat) (os : Array Obj) => cell_regrown c10 d os
  have q3 := fun (d : Nat) (os : Array Obj) => cell_regrown c11 d os
  refine wp_region_quiet_late1 11 10 (.tmp 0) (by kernel_rfl) rfl rfl (by kernel_rfl) (fun _ _ _ h => h) ?_
  simp only [List.take_succ_cons, List.take_zero]
  repeat (first | go_big_quiet_step (with_reducible exact quiet_below (hA _)) | quiet_step (with_reducible exact quiet_below (hA _)))
  refine wpQuiet_nil ?_
  intro _ hw'
  obtain ⟨⟨d9, os⟩, hw''⟩ := hw'
  subst hw''
  have hbx := below_regrown w1 d9 os
  generalize Go.Sort.grow (redrawn w1 d9) os = w2 at *
  have hK2 := hK1.nx hbx
  have hg2 := gb_trans hg1 (gb_of_below hbx) (fun g e => .inl e)
  clear c0 c1 c2 c3 c4 c5 c6 c7 c8 c9 c10 c11 c12 c13 c14 q0 q1 q2 q3 hA hbx
  show wpAny _ _ _ _ 5 _ _ _
  refine wpAny_ext (i := 11) _ _ _ _ _ rfl rfl rfl rfl rfl rfl (by kernel_rfl) (by kernel_rfl) (by kernel_rfl) (fun _ _ _ h => h) ?_
  refine wpAny_ext (i := 12) _ _ _ _ _ rfl rfl rfl rfl rfl rfl (by kernel_rfl) (by kernel_rfl) (by kernel_rfl) (fun _ _ _ h => h) ?_
  refine wpAny_tail 13 rfl (by kernel_rfl) ?_
  simp only [Act.put, List.setIfInBounds_toArray, List.set_cons_zero, List.set_cons_succ, List.drop_succ_cons, List.drop_zero, List.getElem_toArray, List.getElem_cons_succ, List.getElem_cons_zero]
  go_upto_region 3 with (refine st_two rfl _ _ _ rfl hK2 8 (Nat.le_of_ble_eq_true rfl) (.int .i64 (hi6 (qv + sv))) (.int .u64 (lo6 (qv + sv))) rfl rfl wd_size rfl rfl ?_; intro w3 k3 hg3 hs3)
  have k3a : Bk w3 g 120 (dkA x qu su lu mu bu (qv + sv) sv (lv) mv bv) := k3
  have hg3a := gb_trans hg2 hg3 (fun g e => .inl e)
  clear k3 hg3 hg2 hg1 hK1 hK2 hK
  obtain ⟨c0, c1, c2, c3, c4, c5, c6, c7, c8, c9, c10, c11, c12, c13, c14⟩ := k3a.cell15
  have f3 := k3a.frozen 12
  have hwa : IntKind.i64.wrap (lv + mv) = lv + mv := IntWalk.i64_in _ ⟨by omega, by omega⟩
  go_upto_region 3 with fail
  try simp only [Act.put]
  go_cut [32] (fun p wx => p = .int .i64 (lv + mv) ∧ Bk wx g 120 (dkA x qu su lu mu bu (qv + sv) sv (lv + mv) mv bv) ∧ w.grownBy wx (some g))
  case first =>
    go_region
    all_goals
      go_wp2_with fail
      go_meet
      exact ⟨rfl, (k3a.set 12 _).drew, gb_drew (gb_trans hg3a (gb_set1 w3 ⟨g, 12, none⟩ (.int .i64 (lv + mv))) (fun g e => .inl e))⟩
  case rest =>
    obtain ⟨rfl, k4, hg4⟩ := hcut
    clear c0 c1 c2 c3 c4 c5 c6 c7 c8 c9 c10 c11 c12 c13 c14 f3 k3a hg3a
    obtain ⟨c0, c1, c2, c3, c4, c5, c6, c7, c8, c9, c10, c11, c12, c13, c14⟩ := k4.cell15
    have f4 := k4.frozen 12
    rcases Int.lt_or_le (lv + mv) bv with hlt | hge
    · have HE := HQ2 hlt
      clear HQ1 HQ2
      go_upto_region 4 with fail
      go_region
      go_wp2_with fail
      go_returns
      rw [HE.out.1, HE.out.2]
      exact ⟨rfl, k4.drew, gb_drew hg4⟩
    · have HE := HQ1 hge
      clear HQ1 HQ2
      have hws : IntKind.i64.wrap (lv + mv - bv) = lv + mv - bv := IntWalk.i64_in _ ⟨by omega, by omega⟩
      go_upto_region 4 with fail
      go_region
      go_upto_region 5 with fail
      go_cut [52] (fun p wx => p = .int .i64 (lv + mv - bv) ∧ Bk wx g 120 (dkA x qu su lu mu bu (qv + sv) sv (lv + mv - bv) mv bv) ∧ w.grownBy wx (some g))
      case first =>
        go_region
        all_goals
          go_wp2_with fail
          go_meet
          exact ⟨rfl, (k4.drew.set 12 _).drew, gb_drew (gb_trans (gb_drew hg4) (gb_set1 _ ⟨g, 12, none⟩ (.int .i64 (lv + mv - bv))) (fun g e => .inl e))⟩
      case rest =>
        obtain ⟨rfl, k5, hg5⟩ := hcut
        clear c0 c1 c2 c3 c4 c5 c6 c7 c8 c9 c10 c11 c12 c13 c14 f4 k4 hg4 
        obtain ⟨c0, c1, c2, c3, c4, c5, c6, c7, c8, c9, c10, c11, c12, c13, c14⟩ := k5.cell15
        have q0 := fun (d : Nat) (os : Array Obj) => cell_regrown c8 d os
        have q1 := fun (d : Nat) (os : Array Obj) => cell_regrown c9 d os
        go_upto_region 6 with fail
        refine wp_region_quiet_late1 8 10 (.tmp 0) (by kernel_rfl) rfl rfl (by kernel_rfl) (fun _ _ _ h => h) ?_
        simp only [List.take_succ_cons, List.take_zero]
        repeat (first | go_big_quiet_step ((first | with_reducible exact quiet_below (hOf _) | with_reducible exact quiet_below (hA1 _))) | quiet_step ((first | with_reducible exact quiet_below (hOf _) | with_reducible exact quiet_below (hA1 _))))
        refine wpQuiet_nil ?_
        intro _ hw'
        obtain ⟨⟨d8, oz⟩, hw''⟩ := hw'
        subst hw''
        have hbx := below_regrown wc d8 oz
        generalize Go.Sort.grow (redrawn wc d8) oz = w6 at *
        have hK6 := k5.nx hbx
        have hg6 := gb_trans hg5 (gb_of_below hbx) (fun g e => .inl e)
        show wpAny _ _ _ _ 5 _ _ _
        refine wpAny_ext (i := 8) _ _ _ _ _ rfl rfl rfl rfl rfl rfl (by kernel_rfl) (by kernel_rfl) (by kernel_rfl) (fun _ _ _ h => h) ?_
        refine wpAny_ext (i := 9) _ _ _ _ _ rfl rfl rfl rfl rfl rfl (by kernel_rfl) (by kernel_rfl) (by kernel_rfl) (fun _ _ _ h => h) ?_
        refine wpAny_tail 10 rfl (by kernel_rfl) ?_
        simp only [Act.put, List.setIfInBounds_toArray, List.set_cons_zero, List.set_cons_succ, List.drop_succ_cons, List.drop_zero, List.getElem_toArray, List.getElem_cons_succ, List.getElem_cons_zero]
        go_wp2_with (refine st_two rfl _ _ _ rfl hK6 8 (Nat.le_of_ble_eq_true rfl) (.int .i64 (hi6 (qv + sv + 1))) (.int .u64 (lo6 (qv + sv + 1))) rfl rfl wd_size rfl rfl ?_; intro w7 k7 hg7 hs7)
        go_returns
        rw [HE.out.1, HE.out.2]
        exact ⟨rfl, k7, gb_trans hg6 hg7 (fun g e => .inl e)⟩
end Go.Proofs.YtmnnilkdaibgkaaGreat
end
section
set_option linter.unusedVariables false
namespace Go.Proofs.YtmnnilkdaibgkaaGreat
open Go.RowKit
/-- The numbers have room for n steps. -/
structure SkOk (q s l m b n : Int) : Prop where
  hs : Wd s
  jn : J64 n
  hsn : Wd (ab s * ab n)
  hsn1 : Wd (s * n)
  jm : J64 m
  hmn : Wd (m * n)
  jl : J64 l
  ho : Wd (m * n + l)
  hw : Wq (m * n + l)
  hb : b ≠ 0
  jb : J64 b
  hq : Wd q
  hq1 : Wd (q + s * n)
  hf : Wd (fq (m * n + l) b)
  hq2 : Wd (q + s * n + fq (m * n + l) b)
set_option maxRecDepth 100000 in
set_option maxHeartbeats 8000000 in
theorem askip_u (g : Nat) (x qu su lu mu bu qv sv lv mv bv n : Int) (w : World) (hK : Bk w g 120 (dkA x qu su lu mu bu qv sv lv mv bv)) (h : SkOk qu su lu mu bu n) :
    Calls Tryz.prog 71 #[.pointer (some ⟨g, 1, none⟩), .int .i64 n] w fun e w' => e = .returned (.tuple #[]) ∧ Bk w' g 120 (dkA x (qu + su * n + fq (mu * n + lu) bu) su (fr (mu * n + lu) bu) mu bu qv sv lv mv bv) ∧ w.grownBy w' (some g) := by
  have hSc := fun w' => wscale_any su n w' h.hs h.jn h.hsn
  have hM := fun w' => wmul_any mu n w' h.jm h.jn
  have hOf := fun w' => wof_any lu w' h.jl
  have hA := fun w' => wadd_any (mu * n) lu w' h.hmn (by have := h.jl; unfold J64 at this; unfold Wd; omega) h.ho
  have hW := fun w' => qwide_any (mu * n + lu) bu w' h.hw h.hb h.jb
  have hA1 := fun w' => wadd_any qu (su * n) w' h.hq h.hsn1 h.hq1
  have hA2 := fun w' => wadd_any (qu + su * n) (fq (mu * n + lu) bu) w' h.hq1 h.hf h.hq2
  clear h
  generalize qu + su * n + fq (mu * n + lu) bu = z2 at *
  generalize qu + su * n = z1 at *
  generalize fq (mu * n + lu) bu = q2 at *
  generalize fr (mu * n + lu) bu = l2 at *
  generalize mu * n + lu = ov at *
  generalize mu * n = mn at *
  generalize su * n = sn at *
  obtain ⟨c0, c1, c2, c3, c4, c5, c6, c7, c8, c9, c10, c11, c12, c13, c14⟩ := hK.cell15
  have hlt := hK.lt
  go_enter Tryz.func71, Tryz.ntmps71
  go_upto_region 1 with (go_at_call 109; (with_reducible refine (hSc _).mono ?_); rintro e w1 ⟨rfl, hb1⟩)
  have hL := ((Lie.start w).nx hb1).alloc (wdA sn) 113
  have hz1 := hb1.size
  have hK1 := (hK.nx hb1).alloc (.cells (wdA sn) 113)
  clear c0 c1 c2 c3 c4 c5 c6 c7 c8 c9 c10 c11 c12 c13 c14 hSc hK hb1
  obtain ⟨g4, hg4⟩ : ∃ g4, g4 = w1.heap.size := ⟨_, rfl⟩
  rw [← hg4] at hL hz1 ⊢
  generalize w1.alloc (.cells (wdA sn) 113) = wr at *
  clear hg4
  have k4 : Bk wr g4 113 (wdA sn) := hL.k 0 (by simp)
  have hlr := hK1.lt
  obtain ⟨c0, c1, c2, c3, c4, c5, c6, c7, c8, c9, c10, c11, c12, c13, c14⟩ := hK1.cell15
  have cl := c5
  have cm := c6
  clear c0 c1 c2 c3 c4 c5 c6 c7 c8 c9 c10 c11 c12 c13 c14
  go_cut [6] (fun p wx => ∃ g6 : Nat, p = .pointer (some ⟨g6, 0, none⟩) ∧ wr.heap.size ≤ g6 ∧ Bk wx g6 113 (wdA ov) ∧ Below wr.heap.size wr wx)
  case first =>
    have hbl : Below wr.heap.size wr wr := Below.refl _ _
    go_region_held3 (fun w' => w'.cell? ⟨g, 5, none⟩ = some (.int .i64 lu) ∧ w'.cell? ⟨g, 6, none⟩ = some (.int .i64 mu) ∧ Below wr.heap.size wr w')
      (first
        | with_reducible exact ⟨(hbl.cell (p := ⟨g, 5, none⟩) hlr).trans cl, (hbl.cell (p := ⟨g, 6, none⟩) hlr).trans cm, hbl⟩
        | (refine (fun hb => ⟨(hb.cell (p := ⟨g, 5, none⟩) hlr).trans cl, (hb.cell (p := ⟨g, 6, none⟩) hlr).trans cm, hb⟩) ?_; first | with_reducible exact Below.alloc hbl hbl.size _ | with_reducible exact below_of_gb hbl (gb2 wn wr.heap.size _ _) (Nat.le_refl _) hbl.size | with_reducible exact below_of_gb hbl (gb2 wn wl.heap.size _ _) hbAs hbl.size | with_reducible exact below_of_gb hbl (gb2 wn wm.heap.size _ _) hbBs hbl.size | go_grown))
      (first
        | (go_at_call 105; (with_reducible refine (hM _).mono ?_); rintro e wl ⟨rfl, hbA'⟩; have hbA : Below wr.heap.size wr wl := (by first | exact hbA'.mono (Nat.le_refl _) | exact Below.trans (by first | exact Below.alloc hbl hbl.size _ | exact hbl | go_grown) (hbA'.mono (by first | exact hbl.size | exact Nat.le_refl _ | (have := hbl.size; simp; done) | (have := hbl.size; simp; omega) | (simp; done) | (simp; omega)))); have hbAs := hbA.size; have hbl := hbA)
        | (go_at_call 107; (with_reducible refine (hOf _).mono ?_); rintro e wm ⟨rfl, hbB'⟩; have hbB : Below wr.heap.size wr wm := (by first | exact hbB'.mono (Nat.le_refl _) | exact Below.trans (by first | exact Below.alloc hbl hbl.size _ | exact hbl | go_grown) (hbB'.mono (by first | exact hbl.size | exact Nat.le_refl _ | (have := hbl.size; simp; done) | (have := hbl.size; simp; omega) | (simp; done) | (simp; omega)))); have hbBs := hbB.size; have hbl := hbB)
        | (go_at_call 106; (with_reducible refine (hA _).mono ?_); rintro e wn ⟨rfl, hbC'⟩; have hbC : Below wr.heap.size wr wn := (by first | exact hbC'.mono (Nat.le_refl _) | exact Below.trans (by first | exact Below.alloc hbl hbl.size _ | exact hbl | go_grown) (hbC'.mono (by first | exact hbl.size | exact Nat.le_refl _ | (have := hbl.size; simp; done) | (have := hbl.size; simp; omega) | (simp; done) | (simp; omega)))); have hbCs := hbC.size; have hbl := hbC; (first | (have kx : Bk wn wr.heap.size 113 #[.int .i64 0, .int .u64 0] := (by first | exact ((((Bk.new wr 113 #[.int .i64 0, .int .u64 0]).drew).nx hbA').nx hbB').nx hbC' | exact (((Bk.new wr.drew 113 #[.int .i64 0, .int .u64 0]).nx hbA').nx hbB').nx hbC' | exact (((Bk.new wr 113 #[.int .i64 0, .int .u64 0]).nx hbA').nx hbB').nx hbC'); obtain ⟨x0, x1⟩ := kx.cell2; have fx := kx.frozen; have hgx : wr.heap.size ≤ wr.heap.size := Nat.le_refl _) | (have kx : Bk wn wl.heap.size 113 #[.int .i64 0, .int .u64 0] := ((Bk.new wl 113 #[.int .i64 0, .int .u64 0]).nx hbB').nx hbC'; obtain ⟨x0, x1⟩ := kx.cell2; have fx := kx.frozen; have hgx : wr.heap.size ≤ wl.heap.size := hbAs) | (have kx : Bk wn wm.heap.size 113 #[.int .i64 0, .int .u64 0] := (Bk.new wm 113 #[.int .i64 0, .int .u64 0]).nx hbC'; obtain ⟨x0, x1⟩ := kx.cell2; have fx := kx.frozen; have hgx : wr.heap.size ≤ wm.heap.size := hbBs) | skip)))
    all_goals
      go_wp2_with fail
      go_meet
      first
        | exact ⟨wn.heap.size, rfl, hbC.size, Bk.new wn _ _, Below.alloc hbC hbC.size _⟩
        | exact ⟨_, rfl, hgx, kx.set2 _ _, below_of_gb hbC (gb2 wn _ _ _) hgx hbC.size⟩
  case rest =>
    obtain ⟨g6, rfl, hg6, k6, hb6⟩ := hcut
    have k46 := k4.nx hb6
    have hK6 := hK1.nx hb6
    have hL6 := hL.nx hb6
    have hz6 := k6.lt
    clear cl cm hM hOf hA hK1 k4 hL hb6
    have hl6 := hK6.lt
    obtain ⟨x0, x1⟩ := k6.cell2
    obtain ⟨c0, c1, c2, c3, c4, c5, c6, c7, c8, c9, c10, c11, c12, c13, c14⟩ := hK6.cell15
    have cb := c7
    clear c0 c1 c2 c3 c4 c5 c6 c7 c8 c9 c10 c11 c12 c13 c14
    go_upto_region 2 with fail
    try simp only [Act.put]
    go_cut [8, 9] (fun p r wx => ∃ g8 : Nat, p = .pointer (some ⟨g8, 0, none⟩) ∧ r = .int .i64 l2 ∧ wc.heap.size ≤ g8 ∧ Bk wx g8 113 (wdA q2) ∧ Below wc.heap.size wc wx)
    case first =>
      have hbl : Below wc.heap.size wc wc := Below.refl _ _
      go_region_held3 (fun w' => w'.cell? ⟨g, 7, none⟩ = some (.int .i64 bu) ∧ w'.cell? ⟨g6, 0, none⟩ = some (.int .i64 (hi6 ov)) ∧ w'.cell? ⟨g6, 1, none⟩ = some (.int .u64 (lo6 ov)) ∧ Below wc.heap.size wc w')
        (first
          | with_reducible exact ⟨(hbl.cell (p := ⟨g, 7, none⟩) hl6).trans cb, (hbl.cell (p := ⟨g6, 0, none⟩) hz6).trans x0, (hbl.cell (p := ⟨g6, 1, none⟩) hz6).trans x1, hbl⟩
          | (refine (fun hb => ⟨(hb.cell (p := ⟨g, 7, none⟩) hl6).trans cb, (hb.cell (p := ⟨g6, 0, none⟩) hz6).trans x0, (hb.cell (p := ⟨g6, 1, none⟩) hz6).trans x1, hb⟩) ?_; first | with_reducible exact Below.alloc hbl hbl.size _ | with_reducible exact below_of_gb hbl (gb2 wl wc.heap.size _ _) (Nat.le_refl _) hbl.size | go_grown))
        (first | (go_at_call 104; (with_reducible refine (hW _).mono ?_); rintro e wl ⟨rfl, hbA'⟩; have hbA : Below wc.heap.size wc wl := (by first | exact hbA'.mono (Nat.le_refl _) | exact Below.trans (by first | exact Below.alloc hbl hbl.size _ | exact hbl | go_grown) (hbA'.mono (by first | exact hbl.size | exact Nat.le_refl _ | (simp; done) | (simp; omega)))); have hbAs := hbA.size; have hbl := hbA; (first | (have kx : Bk wl wc.heap.size 113 #[.int .i64 0, .int .u64 0] := (by first | exact ((Bk.new wc 113 #[.int .i64 0, .int .u64 0]).drew).nx hbA' | exact (Bk.new wc.drew 113 #[.int .i64 0, .int .u64 0]).nx hbA' | exact (Bk.new wc 113 #[.int .i64 0, .int .u64 0]).nx hbA'); obtain ⟨y0, y1⟩ := kx.cell2; have fx := kx.frozen) | skip)))
      all_goals
        go_wp2_with fail
        go_meet
        first
          | exact ⟨wl.heap.size, rfl, rfl, hbA.size, Bk.new wl _ _, Below.alloc hbA hbA.size _⟩
          | exact ⟨wc.heap.size, rfl, rfl, Nat.le_refl _, kx.set2 _ _, below_of_gb hbA (gb2 wl _ _ _) (Nat.le_refl _) hbA.size⟩
    case rest =>
      obtain ⟨g8, rfl, rfl, hg8, k8, hb8⟩ := hcut
      have hne : g8 ≠ g := by omega
      have k48 := k46.nx hb8
      have hK8 := hK6.nx hb8
      have hg0 : w.grownBy wc (some g) := gb_of_below (hL6.nx hb8).bel
      clear hL6 k46 hK6 k6 hb8 hg8 hl6 hz6 x0 x1 cb hW hg6 hz1 hlt hlr
      obtain ⟨c0, c1, c2, c3, c4, c5, c6, c7, c8, c9, c10, c11, c12, c13, c14⟩ := hK8.cell15
      have q0 := fun (d : Nat) (os : Array Obj) => cell_regrown c1 d os
      have q1 := fun (d : Nat) (os : Array Obj) => cell_regrown c2 d os
      clear c0 c1 c2 c3 c4 c5 c6 c7 c8 c9 c10 c11 c12 c13 c14
      go_upto_region 3 with fail
      try simp only [Act.put]
      refine wp_region_quiet_late1 8 10 (.tmp 0) (by kernel_rfl) rfl rfl (by kernel_rfl) (fun _ _ _ h => h) ?_
      simp only [List.take_succ_cons, List.take_zero]
      repeat (first | (refine wpQuiet_load rfl _ _ rfl k48 rfl Tryz.underlying113 rfl wd_size ?_; simp only [Act.put, List.setIfInBounds_toArray, List.set_cons_zero, List.set_cons_succ]) | go_big_quiet_step (with_reducible exact quiet_below (hA1 _)) | quiet_step (with_reducible exact quiet_below (hA1 _)))
      refine wpQuiet_nil ?_
      intro _ hw'
      obtain ⟨⟨d9, os⟩, hw''⟩ := hw'
      subst hw''
      have hbx := below_regrown wc d9 os
      generalize Go.Sort.grow (redrawn wc d9) os = wy at *
      have hKy := hK8.nx hbx
      have k8y := k8.nx hbx
      have hgy := gb_trans hg0 (gb_of_below hbx) (fun g e => .inl e)
      clear q0 q1 hA1 hbx k48 hK8 k8 hg0
      show wpAny _ _ _ _ 5 _ _ _
      refine wpAny_ext (i := 8) _ _ _ _ _ rfl rfl rfl rfl rfl rfl (by kernel_rfl) (by kernel_rfl) (by kernel_rfl) (fun _ _ _ h => h) ?_
      refine wpAny_ext (i := 9) _ _ _ _ _ rfl rfl rfl rfl rfl rfl (by kernel_rfl) (by kernel_rfl) (by kernel_rfl) (fun _ _ _ h => h) ?_
      refine wpAny_tail 10 rfl (by kernel_rfl) ?_
      simp only [Act.put, List.setIfInBounds_toArray, List.set_cons_zero, List.set_cons_succ, List.drop_succ_cons, List.drop_zero, List.getElem_toArray, List.getElem_cons_succ, List.getElem_cons_zero]
      go_upto_region 4 with (refine st_two rfl _ _ _ rfl hKy 1 (Nat.le_of_ble_eq_true rfl) (.int .i64 (hi6 z1)) (.int .u64 (lo6 z1)) rfl rfl wd_size rfl rfl ?_; intro w3 k3 hg3 hs3)
      have hK3 : Bk w3 g 120 (dkA x (z1) su (lu) mu bu qv sv lv mv bv) := k3
      have k83 : Bk w3 g8 113 (wdA q2) := (hg3.block g8 k8y.lt (by simpa using hne)).trans k8y
      have hgz := gb_trans hgy hg3 (fun g e => .inl e)
      clear k3 hKy k8y hgy hg3 hs3
      obtain ⟨c0, c1, c2, c3, c4, c5, c6, c7, c8, c9, c10, c11, c12, c13, c14⟩ := hK3.cell15
      have q0 := fun (d : Nat) (os : Array Obj) => cell_regrown c1 d os
      have q1 := fun (d : Nat) (os : Array Obj) => cell_regrown c2 d os
      clear c0 c1 c2 c3 c4 c5 c6 c7 c8 c9 c10 c11 c12 c13 c14
      go_upto_region 4 with fail
      try simp only [Act.put]
      refine wp_region_quiet_late1 8 10 (.tmp 0) (by kernel_rfl) rfl rfl (by kernel_rfl) (fun _ _ _ h => h) ?_
      simp only [List.take_succ_cons, List.take_zero]
      repeat (first | (refine wpQuiet_load rfl _ _ rfl k83 rfl Tryz.underlying113 rfl wd_size ?_; simp only [Act.put, List.setIfInBounds_toArray, List.set_cons_zero, List.set_cons_succ]) | go_big_quiet_step (with_reducible exact quiet_below (hA2 _)) | quiet_step (with_reducible exact quiet_below (hA2 _)))
      refine wpQuiet_nil ?_
      intro _ hw'
      obtain ⟨⟨d8, oz⟩, hw''⟩ := hw'
      subst hw''
      have hbx := below_regrown w3 d8 oz
      generalize Go.Sort.grow (redrawn w3 d8) oz = w4 at *
      have hK4 := hK3.nx hbx
      have hg4 := gb_trans hgz (gb_of_below hbx) (fun g e => .inl e)
      clear q0 q1 hA2 hbx k83 hK3 hgz
      show wpAny _ _ _ _ 5 _ _ _
      refine wpAny_ext (i := 8) _ _ _ _ _ rfl rfl rfl rfl rfl rfl (by kernel_rfl) (by kernel_rfl) (by kernel_rfl) (fun _ _ _ h => h) ?_
      refine wpAny_ext (i := 9) _ _ _ _ _ rfl rfl rfl rfl rfl rfl (by kernel_rfl) (by kernel_rfl) (by kernel_rfl) (fun _ _ _ h => h) ?_
      refine wpAny_tail 10 rfl (by kernel_rfl) ?_
      simp only [Act.put, List.setIfInBounds_toArray, List.set_cons_zero, List.set_cons_succ, List.drop_succ_cons, List.drop_zero, List.getElem_toArray, List.getElem_cons_succ, List.getElem_cons_zero]
      go_upto_region 5 with (refine st_two rfl _ _ _ rfl hK4 1 (Nat.le_of_ble_eq_true rfl) (.int .i64 (hi6 z2)) (.int .u64 (lo6 z2)) rfl rfl wd_size rfl rfl ?_; intro w5 k5 hg5 hs5)
      have hK5 : Bk w5 g 120 (dkA x (z2) su (lu) mu bu qv sv lv mv bv) := k5
      have hg6 := gb_trans hg4 hg5 (fun g e => .inl e)
      obtain ⟨c0, c1, c2, c3, c4, c5, c6, c7, c8, c9, c10, c11, c12, c13, c14⟩ := hK5.cell15
      have f5 := hK5.frozen 5
      clear k5 hK4 hg4 hg5 hs5
      go_wp2_with fail
      go_end0
      exact ⟨rfl, hK5.set 5 _, gb_trans hg6 (gb_set1 w5 ⟨g, 5, none⟩ (.int .i64 l2)) (fun g e => .inl e)⟩
set_option maxRecDepth 100000 in
set_option maxHeartbeats 8000000 in
theorem askip_v (g : Nat) (x qu su lu mu bu qv sv lv mv bv n : Int) (w : World) (hK : Bk w g 120 (dkA x qu su lu mu bu qv sv lv mv bv)) (h : SkOk qv sv lv mv bv n) :
    Calls Tryz.prog 71 #[.pointer (some ⟨g, 8, none⟩), .int .i64 n] w fun e w' => e = .returned (.tuple #[]) ∧ Bk w' g 120 (dkA x qu su lu mu bu (qv + sv * n + fq (mv * n + lv) bv) sv (fr (mv * n + lv) bv) mv bv) ∧ w.grownBy w' (some g) := by
  have hSc := fun w' => wscale_any sv n w' h.hs h.jn h.hsn
  have hM := fun w' => wmul_any mv n w' h.jm h.jn
  have hOf := fun w' => wof_any lv w' h.jl
  have hA := fun w' => wadd_any (mv * n) lv w' h.hmn (by have := h.jl; unfold J64 at this; unfold Wd; omega) h.ho
  have hW := fun w' => qwide_any (mv * n + lv) bv w' h.hw h.hb h.jb
  have hA1 := fun w' => wadd_any qv (sv * n) w' h.hq h.hsn1 h.hq1
  have hA2 := fun w' => wadd_any (qv + sv * n) (fq (mv * n + lv) bv) w' h.hq1 h.hf h.hq2
  clear h
  generalize qv + sv * n + fq (mv * n + lv) bv = z2 at *
  generalize qv + sv * n = z1 at *
  generalize fq (mv * n + lv) bv = q2 at *
  generalize fr (mv * n + lv) bv = l2 at *
  generalize mv * n + lv = ov at *
  generalize mv * n = mn at *
  generalize sv * n = sn at *
  obtain ⟨c0, c1, c2, c3, c4, c5, c6, c7, c8, c9, c10, c11, c12, c13, c14⟩ := hK.cell15
  have hlt := hK.lt
  go_enter Tryz.func71, Tryz.ntmps71
  go_upto_region 1 with (go_at_call 109; (with_reducible refine (hSc _).mono ?_); rintro e w1 ⟨rfl, hb1⟩)
  have hL := ((Lie.start w).nx hb1).alloc (wdA sn) 113
  have hz1 := hb1.size
  have hK1 := (hK.nx hb1).alloc (.cells (wdA sn) 113)
  clear c0 c1 c2 c3 c4 c5 c6 c7 c8 c9 c10 c11 c12 c13 c14 hSc hK hb1
  obtain ⟨g4, hg4⟩ : ∃ g4, g4 = w1.heap.size := ⟨_, rfl⟩
  rw [← hg4] at hL hz1 ⊢
  generalize w1.alloc (.cells (wdA sn) 113) = wr at *
  clear hg4
  have k4 : Bk wr g4 113 (wdA sn) := hL.k 0 (by simp)
  have hlr := hK1.lt
  obtain ⟨c0, c1, c2, c3, c4, c5, c6, c7, c8, c9, c10, c11, c12, c13, c14⟩ := hK1.cell15
  have cl := c12
  have cm := c13
  clear c0 c1 c2 c3 c4 c5 c6 c7 c8 c9 c10 c11 c12 c13 c14
  go_cut [6] (fun p wx => ∃ g6 : Nat, p = .pointer (some ⟨g6, 0, none⟩) ∧ wr.heap.size ≤ g6 ∧ Bk wx g6 113 (wdA ov) ∧ Below wr.heap.size wr wx)
  case first =>
    have hbl : Below wr.heap.size wr wr := Below.refl _ _
    go_region_held3 (fun w' => w'.cell? ⟨g, 12, none⟩ = some (.int .i64 lv) ∧ w'.cell? ⟨g, 13, none⟩ = some (.int .i64 mv) ∧ Below wr.heap.size wr w')
      (first
        | with_reducible exact ⟨(hbl.cell (p := ⟨g, 12, none⟩) hlr).trans cl, (hbl.cell (p := ⟨g, 13, none⟩) hlr).trans cm, hbl⟩
        | (refine (fun hb => ⟨(hb.cell (p := ⟨g, 12, none⟩) hlr).trans cl, (hb.cell (p := ⟨g, 13, none⟩) hlr).trans cm, hb⟩) ?_; first | with_reducible exact Below.alloc hbl hbl.size _ | with_reducible exact below_of_gb hbl (gb2 wn wr.heap.size _ _) (Nat.le_refl _) hbl.size | with_reducible exact below_of_gb hbl (gb2 wn wl.heap.size _ _) hbAs hbl.size | with_reducible exact below_of_gb hbl (gb2 wn wm.heap.size _ _) hbBs hbl.size | go_grown))
      (first
        | (go_at_call 105; (with_reducible refine (hM _).mono ?_); rintro e wl ⟨rfl, hbA'⟩; have hbA : Below wr.heap.size wr wl := (by first | exact hbA'.mono (Nat.le_refl _) | exact Below.trans (by first | exact Below.alloc hbl hbl.size _ | exact hbl | go_grown) (hbA'.mono (by first | exact hbl.size | exact Nat.le_refl _ | (have := hbl.size; simp; done) | (have := hbl.size; simp; omega) | (simp; done) | (simp; omega)))); have hbAs := hbA.size; have hbl := hbA)
        | (go_at_call 107; (with_reducible refine (hOf _).mono ?_); rintro e wm ⟨rfl, hbB'⟩; have hbB : Below wr.heap.size wr wm := (by first | exact hbB'.mono (Nat.le_refl _) | exact Below.trans (by first | exact Below.alloc hbl hbl.size _ | exact hbl | go_grown) (hbB'.mono (by first | exact hbl.size | exact Nat.le_refl _ | (have := hbl.size; simp; done) | (have := hbl.size; simp; omega) | (simp; done) | (simp; omega)))); have hbBs := hbB.size; have hbl := hbB)
        | (go_at_call 106; (with_reducible refine (hA _).mono ?_); rintro e wn ⟨rfl, hbC'⟩; have hbC : Below wr.heap.size wr wn := (by first | exact hbC'.mono (Nat.le_refl _) | exact Below.trans (by first | exact Below.alloc hbl hbl.size _ | exact hbl | go_grown) (hbC'.mono (by first | exact hbl.size | exact Nat.le_refl _ | (have := hbl.size; simp; done) | (have := hbl.size; simp; omega) | (simp; done) | (simp; omega)))); have hbCs := hbC.size; have hbl := hbC; (first | (have kx : Bk wn wr.heap.size 113 #[.int .i64 0, .int .u64 0] := (by first | exact ((((Bk.new wr 113 #[.int .i64 0, .int .u64 0]).drew).nx hbA').nx hbB').nx hbC' | exact (((Bk.new wr.drew 113 #[.int .i64 0, .int .u64 0]).nx hbA').nx hbB').nx hbC' | exact (((Bk.new wr 113 #[.int .i64 0, .int .u64 0]).nx hbA').nx hbB').nx hbC'); obtain ⟨x0, x1⟩ := kx.cell2; have fx := kx.frozen; have hgx : wr.heap.size ≤ wr.heap.size := Nat.le_refl _) | (have kx : Bk wn wl.heap.size 113 #[.int .i64 0, .int .u64 0] := ((Bk.new wl 113 #[.int .i64 0, .int .u64 0]).nx hbB').nx hbC'; obtain ⟨x0, x1⟩ := kx.cell2; have fx := kx.frozen; have hgx : wr.heap.size ≤ wl.heap.size := hbAs) | (have kx : Bk wn wm.heap.size 113 #[.int .i64 0, .int .u64 0] := (Bk.new wm 113 #[.int .i64 0, .int .u64 0]).nx hbC'; obtain ⟨x0, x1⟩ := kx.cell2; have fx := kx.frozen; have hgx : wr.heap.size ≤ wm.heap.size := hbBs) | skip)))
    all_goals
      go_wp2_with fail
      go_meet
      first
        | exact ⟨wn.heap.size, rfl, hbC.size, Bk.new wn _ _, Below.alloc hbC hbC.size _⟩
        | exact ⟨_, rfl, hgx, kx.set2 _ _, below_of_gb hbC (gb2 wn _ _ _) hgx hbC.size⟩
  case rest =>
    obtain ⟨g6, rfl, hg6, k6, hb6⟩ := hcut
    have k46 := k4.nx hb6
    have hK6 := hK1.nx hb6
    have hL6 := hL.nx hb6
    have hz6 := k6.lt
    clear cl cm hM hOf hA hK1 k4 hL hb6
    have hl6 := hK6.lt
    obtain ⟨x0, x1⟩ := k6.cell2
    obtain ⟨c0, c1, c2, c3, c4, c5, c6, c7, c8, c9, c10, c11, c12, c13, c14⟩ := hK6.cell15
    have cb := c14
    clear c0 c1 c2 c3 c4 c5 c6 c7 c8 c9 c10 c11 c12 c13 c14
    go_upto_region 2 with fail
    try simp only [Act.put]
    go_cut [8, 9] (fun p r wx => ∃ g8 : Nat, p = .pointer (some ⟨g8, 0, none⟩) ∧ r = .int .i64 l2 ∧ wc.heap.size ≤ g8 ∧ Bk wx g8 113 (wdA q2) ∧ Below wc.heap.size wc wx)
    case first =>
      have hbl : Below wc.heap.size wc wc := Below.refl _ _
      go_region_held3 (fun w' => w'.cell? ⟨g, 14, none⟩ = some (.int .i64 bv) ∧ w'.cell? ⟨g6, 0, none⟩ = some (.int .i64 (hi6 ov)) ∧ w'.cell? ⟨g6, 1, none⟩ = some (.int .u64 (lo6 ov)) ∧ Below wc.heap.size wc w')
        (first
          | with_reducible exact ⟨(hbl.cell (p := ⟨g, 14, none⟩) hl6).trans cb, (hbl.cell (p := ⟨g6, 0, none⟩) hz6).trans x0, (hbl.cell (p := ⟨g6, 1, none⟩) hz6).trans x1, hbl⟩
          | (refine (fun hb => ⟨(hb.cell (p := ⟨g, 14, none⟩) hl6).trans cb, (hb.cell (p := ⟨g6, 0, none⟩) hz6).trans x0, (hb.cell (p := ⟨g6, 1, none⟩) hz6).trans x1, hb⟩) ?_; first | with_reducible exact Below.alloc hbl hbl.size _ | with_reducible exact below_of_gb hbl (gb2 wl wc.heap.size _ _) (Nat.le_refl _) hbl.size | go_grown))
        (first | (go_at_call 104; (with_reducible refine (hW _).mono ?_); rintro e wl ⟨rfl, hbA'⟩; have hbA : Below wc.heap.size wc wl := (by first | exact hbA'.mono (Nat.le_refl _) | exact Below.trans (by first | exact Below.alloc hbl hbl.size _ | exact hbl | go_grown) (hbA'.mono (by first | exact hbl.size | exact Nat.le_refl _ | (simp; done) | (simp; omega)))); have hbAs := hbA.size; have hbl := hbA; (first | (have kx : Bk wl wc.heap.size 113 #[.int .i64 0, .int .u64 0] := (by first | exact ((Bk.new wc 113 #[.int .i64 0, .int .u64 0]).drew).nx hbA' | exact (Bk.new wc.drew 113 #[.int .i64 0, .int .u64 0]).nx hbA' | exact (Bk.new wc 113 #[.int .i64 0, .int .u64 0]).nx hbA'); obtain ⟨y0, y1⟩ := kx.cell2; have fx := kx.frozen) | skip)))
      all_goals
        go_wp2_with fail
        go_meet
        first
          | exact ⟨wl.heap.size, rfl, rfl, hbA.size, Bk.new wl _ _, Below.alloc hbA hbA.size _⟩
          | exact ⟨wc.heap.size, rfl, rfl, Nat.le_refl _, kx.set2 _ _, below_of_gb hbA (gb2 wl _ _ _) (Nat.le_refl _) hbA.size⟩
    case rest =>
      obtain ⟨g8, rfl, rfl, hg8, k8, hb8⟩ := hcut
      have hne : g8 ≠ g := by omega
      have k48 := k46.nx hb8
      have hK8 := hK6.nx hb8
      have hg0 : w.grownBy wc (some g) := gb_of_below (hL6.nx hb8).bel
      clear hL6 k46 hK6 k6 hb8 hg8 hl6 hz6 x0 x1 cb hW hg6 hz1 hlt hlr
      obtain ⟨c0, c1, c2, c3, c4, c5, c6, c7, c8, c9, c10, c11, c12, c13, c14⟩ := hK8.cell15
      have q0 := fun (d : Nat) (os : Array Obj) => cell_regrown c8 d os
      have q1 := fun (d : Nat) (os : Array Obj) => cell_regrown c9 d os
      clear c0 c1 c2 c3 c4 c5 c6 c7 c8 c9 c10 c11 c12 c13 c14
      go_upto_region 3 with fail
      try simp only [Act.put]
      refine wp_region_quiet_late1 8 10 (.tmp 0) (by kernel_rfl) rfl rfl (by kernel_rfl) (fun _ _ _ h => h) ?_
      simp only [List.take_succ_cons, List.take_zero]
      repeat (first | (refine wpQuiet_load rfl _ _ rfl k48 rfl Tryz.underlying113 rfl wd_size ?_; simp only [Act.put, List.setIfInBounds_toArray, List.set_cons_zero, List.set_cons_succ]) | go_big_quiet_step (with_reducible exact quiet_below (hA1 _)) | quiet_step (with_reducible exact quiet_below (hA1 _)))
      refine wpQuiet_nil ?_
      intro _ hw'
      obtain ⟨⟨d9, os⟩, hw''⟩ := hw'
      subst hw''
      have hbx := below_regrown wc d9 os
      generalize Go.Sort.grow (redrawn wc d9) os = wy at *
      have hKy := hK8.nx hbx
      have k8y := k8.nx hbx
      have hgy := gb_trans hg0 (gb_of_below hbx) (fun g e => .inl e)
      clear q0 q1 hA1 hbx k48 hK8 k8 hg0
      show wpAny _ _ _ _ 5 _ _ _
      refine wpAny_ext (i := 8) _ _ _ _ _ rfl rfl rfl rfl rfl rfl (by kernel_rfl) (by kernel_rfl) (by kernel_rfl) (fun _ _ _ h => h) ?_
      refine wpAny_ext (i := 9) _ _ _ _ _ rfl rfl rfl rfl rfl rfl (by kernel_rfl) (by kernel_rfl) (by kernel_rfl) (fun _ _ _ h => h) ?_
      refine wpAny_tail 10 rfl (by kernel_rfl) ?_
      simp only [Act.put, List.setIfInBounds_toArray, List.set_cons_zero, List.set_cons_succ, List.drop_succ_cons, List.drop_zero, List.getElem_toArray, List.getElem_cons_succ, List.getElem_cons_zero]
      go_upto_region 4 with (refine st_two rfl _ _ _ rfl hKy 8 (Nat.le_of_ble_eq_true rfl) (.int .i64 (hi6 z1)) (.int .u64 (lo6 z1)) rfl rfl wd_size rfl rfl ?_; intro w3 k3 hg3 hs3)
      have hK3 : Bk w3 g 120 (dkA x qu su lu mu bu (z1) sv (lv) mv bv) := k3
      have k83 : Bk w3 g8 113 (wdA q2) := (hg3.block g8 k8y.lt (by simpa using hne)).trans k8y
      have hgz := gb_trans hgy hg3 (fun g e => .inl e)
      clear k3 hKy k8y hgy hg3 hs3
      obtain ⟨c0, c1, c2, c3, c4, c5, c6, c7, c8, c9, c10, c11, c12, c13, c14⟩ := hK3.cell15
      have q0 := fun (d : Nat) (os : Array Obj) => cell_regrown c8 d os
      have q1 := fun (d : Nat) (os : Array Obj) => cell_regrown c9 d os
      clear c0 c1 c2 c3 c4 c5 c6 c7 c8 c9 c10 c11 c12 c13 c14
      go_upto_region 4 with fail
      try simp only [Act.put]
      refine wp_region_quiet_late1 8 10 (.tmp 0) (by kernel_rfl) rfl rfl (by kernel_rfl) (fun _ _ _ h => h) ?_
      simp only [List.take_succ_cons, List.take_zero]
      repeat (first | (refine wpQuiet_load rfl _ _ rfl k83 rfl Tryz.underlying113 rfl wd_size ?_; simp only [Act.put, List.setIfInBounds_toArray, List.set_cons_zero, List.set_cons_succ]) | go_big_quiet_step (with_reducible exact quiet_below (hA2 _)) | quiet_step (with_reducible exact quiet_below (hA2 _)))
      refine wpQuiet_nil ?_
      intro _ hw'
      obtain ⟨⟨d8, oz⟩, hw''⟩ := hw'
      subst hw''
      have hbx := below_regrown w3 d8 oz
      generalize Go.Sort.grow (redrawn w3 d8) oz = w4 at *
      have hK4 := hK3.nx hbx
      have hg4 := gb_trans hgz (gb_of_below hbx) (fun g e => .inl e)
      clear q0 q1 hA2 hbx k83 hK3 hgz
      show wpAny _ _ _ _ 5 _ _ _
      refine wpAny_ext (i := 8) _ _ _ _ _ rfl rfl rfl rfl rfl rfl (by kernel_rfl) (by kernel_rfl) (by kernel_rfl) (fun _ _ _ h => h) ?_
      refine wpAny_ext (i := 9) _ _ _ _ _ rfl rfl rfl rfl rfl rfl (by kernel_rfl) (by kernel_rfl) (by kernel_rfl) (fun _ _ _ h => h) ?_
      refine wpAny_tail 10 rfl (by kernel_rfl) ?_
      simp only [Act.put, List.setIfInBounds_toArray, List.set_cons_zero, List.set_cons_succ, List.drop_succ_cons, List.drop_zero, List.getElem_toArray, List.getElem_cons_succ, List.getElem_cons_zero]
      go_upto_region 5 with (refine st_two rfl _ _ _ rfl hK4 8 (Nat.le_of_ble_eq_true rfl) (.int .i64 (hi6 z2)) (.int .u64 (lo6 z2)) rfl rfl wd_size rfl rfl ?_; intro w5 k5 hg5 hs5)
      have hK5 : Bk w5 g 120 (dkA x qu su lu mu bu (z2) sv (lv) mv bv) := k5
      have hg6 := gb_trans hg4 hg5 (fun g e => .inl e)
      obtain ⟨c0, c1, c2, c3, c4, c5, c6, c7, c8, c9, c10, c11, c12, c13, c14⟩ := hK5.cell15
      have f5 := hK5.frozen 12
      clear k5 hK4 hg4 hg5 hs5
      go_wp2_with fail
      go_end0
      exact ⟨rfl, hK5.set 12 _, gb_trans hg6 (gb_set1 w5 ⟨g, 12, none⟩ (.int .i64 l2)) (fun g e => .inl e)⟩
end Go.Proofs.YtmnnilkdaibgkaaGreat
end
section
set_option linter.unusedVariables false
namespace Go.Proofs.YtmnnilkdaibgkaaGreat
open Go.RowKit
def dds (d : Int) : Int := if d < 0 then -1 else 1
theorem dds_pos {d : Int} (h : d ≠ 0) : 0 < dds d * d := by unfold dds; split <;> omega
/-- The number at a column, in parts. -/
def ddA (p q r d x y : Int) : Int := dds d * smR p q r x y 1 * 65536
def ddG (p d : Int) : Int := dds d * p * 65536
theorem ddA_step (p q r d x y n : Int) : ddA p q r d x y + n * ddG p d = ddA p q r d (x + n) y := by
  unfold ddA ddG smR
  unfold dds
  have e : p * (x + n) = p * x + p * n := Int.mul_add _ _ _
  have e2 : n * p = p * n := Int.mul_comm _ _
  split
  · rw [e, show n * (-1 * p * 65536) = -(65536 * (n * p)) by grind]; omega
  · rw [e, show n * (1 * p * 65536) = 65536 * (n * p) by grind]; omega
theorem fq_pos {a b : Int} (h : 0 < b) : fq a b = a / b := by unfold fq; rw [if_neg (by omega)]
theorem fr_pos {a b : Int} (h : 0 < b) : fr a b = a % b := by
  unfold fr; rw [fq_pos h]
  have := Int.emod_add_mul_ediv a b
  omega
theorem ddA_cut {p q r d x y : Int} (h : d ≠ 0) : cutF (fq (ddA p q r d x y) (dds d * d)) = plc (smR p q r x y 1) (d * 1) := by
  unfold plc
  congr 1
  rw [fq_pos (dds_pos h), Int.mul_one]
  unfold fq ddA dds
  split
  · rw [show -1 * smR p q r x y 1 * 65536 = -(smR p q r x y 1 * 65536) by omega, show -1 * d = -d by omega]
  · rw [show 1 * smR p q r x y 1 * 65536 = smR p q r x y 1 * 65536 by omega, show 1 * d = d by omega]
theorem dd_nxt {A B b : Int} (h : 0 < b) : nxQ (fq A b) (fq B b) (fr A b) (fr B b) b = fq (A + B) b ∧ nxL (fr A b) (fr B b) b = fr (A + B) b := by
  rw [fq_pos h, fq_pos h, fq_pos h, fr_pos h, fr_pos h, fr_pos h]
  obtain ⟨h1, h2⟩ := dd_next (A := A) (B := B) h
  unfold nxQ nxL
  split
  · rename_i hc; exact ⟨(h1 hc).1.symm, (h1 hc).2.symm⟩
  · rename_i hc; exact ⟨(h2 (by omega)).1.symm, (h2 (by omega)).2.symm⟩
theorem dd_skp {A B n b : Int} (h : 0 < b) : fq A b + fq B b * n + fq (fr B b * n + fr A b) b = fq (A + n * B) b ∧ fr (fr B b * n + fr A b) b = fr (A + n * B) b := by
  rw [fq_pos h, fq_pos h, fq_pos h, fq_pos h, fr_pos h, fr_pos h, fr_pos h, fr_pos h]
  obtain ⟨h1, h2⟩ := dd_skip (A := A) (B := B) (n := n) h
  rw [h1, h2, Int.mul_comm (B / b) n, Int.mul_comm (B % b) n]
  exact ⟨rfl, rfl⟩
/-- Where numbers have room. -/
theorem ddA_bd {p q r d x y : Int} (h : LnOk p q r) (hx : -1048576 ≤ x ∧ x ≤ 1048576) (hy : -1048576 ≤ y ∧ y ≤ 1048576) : -633825300114114700748351602688 ≤ ddA p q r d x y ∧ ddA p q r d x y ≤ 633825300114114700748351602688 := by
  obtain ⟨b0, b1, b2, b3, b4, b5, _⟩ := sum_bd h (rightH_iff.2 ⟨hx, hy, by omega, by omega⟩ : rightH x y 1 = true)
  unfold ddA smR dds
  split <;> omega
theorem ddG_bd {p q r d : Int} (h : LnOk p q r) : -75557863725914323419136 ≤ ddG p d ∧ ddG p d ≤ 75557863725914323419136 := by
  have := h.x0
  have := h.x1
  unfold ddG dds
  split <;> omega
theorem fq_bd {A b M : Int} (hb : 0 < b) (h0 : -M ≤ A) (h1 : A ≤ M) (hM : 0 ≤ M) : -M ≤ fq A b ∧ fq A b ≤ M := by
  rw [fq_pos hb]
  constructor
  · have h3 : -M ≤ A / b := by
      rw [Int.le_ediv_iff_mul_le hb]
      have : -M * b ≤ -M * 1 := by
        rw [Int.neg_mul, Int.neg_mul]
        exact Int.neg_le_neg (Int.mul_le_mul_of_nonneg_left (by omega) hM)
      omega
    exact h3
  · have h3 : A / b < M + 1 := by
      rw [Int.ediv_lt_iff_lt_mul hb]
      have : (M + 1) * 1 ≤ (M + 1) * b := Int.mul_le_mul_of_nonneg_left (by omega) (by omega)
      omega
    omega
theorem fr_bd {A b : Int} (hb : 0 < b) : 0 ≤ fr A b ∧ fr A b < b := by
  rw [fr_pos hb]; exact ⟨Int.emod_nonneg _ (by omega), Int.emod_lt_of_pos _ hb⟩
theorem dxOk {A B b : Int} (hb : 0 < b) (hb2 : b ≤ 562949953421312) (hA : -633825300114114700748351602688 ≤ A ∧ A ≤ 633825300114114700748351602688) (hB : -75557863725914323419136 ≤ B ∧ B ≤ 75557863725914323419136) : DxOk (fq A b) (fq B b) (fr A b) (fr B b) b := by
  have h1 := fq_bd hb hA.1 hA.2 (by omega)
  have h2 := fq_bd hb hB.1 hB.2 (by omega)
  have h3 := fr_bd (A := A) hb
  have h4 := fr_bd (A := B) hb
  exact ⟨by unfold Wd; omega, by unfold Wd; omega, by unfold Wd; omega, by unfold Wd; omega, h3, h4, by omega, by omega⟩
theorem skOk {A B b n : Int} (hb : 0 < b) (hb2 : b ≤ 562949953421312) (hA : -633825300114114700748351602688 ≤ A ∧ A ≤ 633825300114114700748351602688) (hB : -75557863725914323419136 ≤ B ∧ B ≤ 75557863725914323419136) (hn : 0 ≤ n ∧ n ≤ 1048576) : SkOk (fq A b) (fq B b) (fr A b) (fr B b) b n := by
  have h1 := fq_bd hb hA.1 hA.2 (by omega)
  have h2 := fq_bd hb hB.1 hB.2 (by omega)
  have h3 := fr_bd (A := A) hb
  have h4 := fr_bd (A := B) hb
  generalize fq A b = q at *
  generalize fq B b = s at *
  generalize fr A b = l at *
  generalize fr B b = m at *
  clear hA hB
  have m1 := mulbd h2.1 h2.2 (show -1048576 ≤ n by omega) hn.2
  have m0 : 0 ≤ m * n := Int.mul_nonneg h4.1 hn.1
  have m2 : m * n ≤ 562949953421312 * 1048576 := Int.mul_le_mul (by omega) hn.2 hn.1 (by omega)
  have hs : (0 : Int) ≤ ab s ∧ ab s ≤ 75557863725914323419136 := by unfold ab; split <;> omega
  have hn' : ab n = n := by unfold ab; rw [if_neg (by omega)]
  have m3 : 0 ≤ ab s * n := Int.mul_nonneg hs.1 hn.1
  have m4 : ab s * n ≤ 75557863725914323419136 * 1048576 := Int.mul_le_mul hs.2 hn.2 hn.1 (by omega)
  have h5 := fq_bd (A := m * n + l) (M := 591400898480474521600) hb (by omega) (by omega) (by omega)
  refine ⟨by unfold Wd; omega, by unfold J64; omega, by rw [hn']; unfold Wd; omega, by unfold Wd; omega, by unfold J64; omega, by unfold Wd; omega, by unfold J64; omega, by unfold Wd; omega, by unfold Wq; omega, by omega, by unfold J64; omega, by unfold Wd; omega, by unfold Wd; omega, by unfold Wd; omega, by unfold Wd; omega⟩
/-- A walk's cells at a column: u, v the numbers' factors, d the divisor. -/
def ddT (u : Nat → Int) (d x y : Int) : Array Value := dkA x (fq (ddA (u 0) (u 1) (u 2) d x y) (dds d * d)) (fq (ddG (u 0) d) (dds d * d)) (fr (ddA (u 0) (u 1) (u 2) d x y) (dds d * d)) (fr (ddG (u 0) d) (dds d * d)) (dds d * d) (fq (ddA (u 3) (u 4) (u 5) d x y) (dds d * d)) (fq (ddG (u 3) d) (dds d * d)) (fr (ddA (u 3) (u 4) (u 5) d x y) (dds d * d)) (fr (ddG (u 3) d) (dds d * d)) (dds d * d)
/-- Where a walk may stand. -/
structure DdOk (u : Nat → Int) (d x y : Int) : Prop where
  u0 : LnOk (u 0) (u 1) (u 2)
  v0 : LnOk (u 3) (u 4) (u 5)
  d0 : d ≠ 0
  d1 : -562949953421312 ≤ d ∧ d ≤ 562949953421312
  x0 : 0 ≤ x
  x1 : x ≤ 1048576
  y0 : 0 ≤ y
  y1 : y ≤ 1048576
end Go.Proofs.YtmnnilkdaibgkaaGreat
end
section
set_option linter.unusedVariables false
namespace Go.Proofs.YtmnnilkdaibgkaaGreat
open Go.RowKit
set_option maxRecDepth 100000 in
set_option maxHeartbeats 8000000 in
theorem dwnext_gen (g : Nat) (x qu su lu mu bu qv sv lv mv bv : Int) (w : World) (hK : Bk w g 120 (dkA x qu su lu mu bu qv sv lv mv bv)) (hx : 0 ≤ x ∧ x ≤ 1048576) (hU : DxOk qu su lu mu bu) (hV : DxOk qv sv lv mv bv) :
    Calls Tryz.prog 31 #[.pointer (some ⟨g, 0, none⟩)] w fun e w' => e = .returned (.tuple #[.int .i64 (cutF qu), .int .i64 (cutF qv), .bool true]) ∧
      Bk w' g 120 (dkA (x + 1) (nxQ qu su lu mu bu) su (nxL lu mu bu) mu bu (nxQ qv sv lv mv bv) sv (nxL lv mv bv) mv bv) ∧ w.grownBy w' (some g) := by
  have hN1 := fun (w' : World) (hk : Bk w' g 120 (dkA (x + 1) qu su lu mu bu qv sv lv mv bv)) => anext_u g (x + 1) qu su lu mu bu qv sv lv mv bv w' hk hU
  have hN2 := fun (w' : World) (hk : Bk w' g 120 (dkA (x + 1) (nxQ qu su lu mu bu) su (nxL lu mu bu) mu bu qv sv lv mv bv)) => anext_v g (x + 1) _ su _ mu bu qv sv lv mv bv w' hk hV
  have hb0 : (bu == 0) = false := by have := hU.hb; simp; omega
  obtain ⟨x0, x1⟩ := hx
  have hwx : wrap64 (x + 1) = x + 1 := IntWalk.wrap64_in _ ⟨by omega, by omega⟩
  obtain ⟨c0, c1, c2, c3, c4, c5, c6, c7, c8, c9, c10, c11, c12, c13, c14⟩ := hK.cell15
  have f0 := hK.frozen 0
  clear hU hV c1 c2 c3 c4 c5 c6 c8 c9 c10 c11 c12 c13 c14
  generalize nxQ qu su lu mu bu = q1 at *
  generalize nxL lu mu bu = l1 at *
  generalize nxQ qv sv lv mv bv = q2 at *
  generalize nxL lv mv bv = l2 at *
  generalize cutF qu = cu at *
  generalize cutF qv = cv at *
  go_enter Tryz.func31, Tryz.ntmps31
  go_upto_region 4 with fail
  have hK1 : Bk (w.setCell ⟨g, 0, none⟩ (.int .i64 (x + 1))) g 120 (dkA (x + 1) qu su lu mu bu qv sv lv mv bv) := hK.set 0 _
  have hg1 := gb_set1 w ⟨g, 0, none⟩ (.int .i64 (x + 1))
  clear c0 c7 f0 hwx hK
  generalize w.setCell ⟨g, 0, none⟩ (.int .i64 (x + 1)) = w1 at *
  go_region_with (first
    | (go_at_call 70; (with_reducible refine (hN1 _ (by exact hK1.drew)).mono ?_); rintro e w2 ⟨rfl, hK2, hg2⟩)
    | (go_at_call 70; (with_reducible refine (hN1 _ (by exact hK1)).mono ?_); rintro e w2 ⟨rfl, hK2, hg2⟩)
    | (go_at_call 70; (with_reducible refine (hN2 _ (by exact hK2)).mono ?_); rintro e w3 ⟨rfl, hK3, hg3⟩))
  all_goals
    go_wp2_with fail
    go_returns
    exact ⟨rfl, hK3, gb_trans (gb_drew hg1) (gb_trans hg2 hg3 (fun g e => .inl e)) (fun g e => .inl e)⟩
set_option maxRecDepth 100000 in
set_option maxHeartbeats 8000000 in
theorem dwskip_gen (g : Nat) (x qu su lu mu bu qv sv lv mv bv n : Int) (w : World) (hK : Bk w g 120 (dkA x qu su lu mu bu qv sv lv mv bv)) (hx : 0 ≤ x ∧ x ≤ 1048576) (hn : 0 ≤ n ∧ x + n ≤ 1048577) (hU : SkOk qu su lu mu bu n) (hV : SkOk qv sv lv mv bv n) :
    Calls Tryz.prog 32 #[.pointer (some ⟨g, 0, none⟩), .int .i64 n] w fun e w' => e = .returned (.bool true) ∧
      Bk w' g 120 (dkA (x + n) (qu + su * n + fq (mu * n + lu) bu) su (fr (mu * n + lu) bu) mu bu (qv + sv * n + fq (mv * n + lv) bv) sv (fr (mv * n + lv) bv) mv bv) ∧ w.grownBy w' (some g) := by
  have hN1 := fun (w' : World) (hk : Bk w' g 120 (dkA (x + n) qu su lu mu bu qv sv lv mv bv)) => askip_u g (x + n) qu su lu mu bu qv sv lv mv bv n w' hk hU
  have hN2 := fun (w' : World) (hk : Bk w' g 120 (dkA (x + n) (qu + su * n + fq (mu * n + lu) bu) su (fr (mu * n + lu) bu) mu bu qv sv lv mv bv)) => askip_v g (x + n) _ su _ mu bu qv sv lv mv bv n w' hk hV
  have hb0 : (bu == 0) = false := by have := hU.hb; simpa using this
  obtain ⟨x0, x1⟩ := hx
  obtain ⟨n0, n1⟩ := hn
  have hwx : wrap64 (x + n) = x + n := IntWalk.wrap64_in _ ⟨by omega, by omega⟩
  have hwr : wrap64 (1048577 - x) = 1048577 - x := IntWalk.wrap64_in _ ⟨by omega, by omega⟩
  have h4 : ¬ (n < 0) := by omega
  have h5 : ¬ (1048577 - x < n) := by omega
  obtain ⟨c0, c1, c2, c3, c4, c5, c6, c7, c8, c9, c10, c11, c12, c13, c14⟩ := hK.cell15
  have f0 := hK.frozen 0
  clear hU hV c1 c2 c3 c4 c5 c6 c8 c9 c10 c11 c12 c13 c14
  generalize qu + su * n + fq (mu * n + lu) bu = q1 at *
  generalize fr (mu * n + lu) bu = l1 at *
  generalize qv + sv * n + fq (mv * n + lv) bv = q2 at *
  generalize fr (mv * n + lv) bv = l2 at *
  go_enter Tryz.func32, Tryz.ntmps32
  go_upto_region 4 with fail
  have hK1 : Bk (w.setCell ⟨g, 0, none⟩ (.int .i64 (x + n))) g 120 (dkA (x + n) qu su lu mu bu qv sv lv mv bv) := hK.set 0 _
  have hg1 := gb_set1 w ⟨g, 0, none⟩ (.int .i64 (x + n))
  clear c0 c7 f0 hwx hK
  generalize w.setCell ⟨g, 0, none⟩ (.int .i64 (x + n)) = w1 at *
  go_quiet (fail)
  replace hK1 := hK1.drewN nq
  replace hg1 : w.grownBy (w1.drewN nq) (some g) := gb_drewN hg1 nq
  generalize w1.drewN nq = wq at *
  have ix0 : ∀ w', (Instr.index 122 (.agg #[.func (.func 71) #[.pointer (some ⟨g, 1, none⟩)] #[], .func (.func 71) #[.pointer (some ⟨g, 8, none⟩)] #[]]) (.int .i64 0)).run Tryz.prog w' = .ok (.func (.func 71) #[.pointer (some ⟨g, 1, none⟩)] #[]) w' := fun _ => rfl
  have ix1 : ∀ w', (Instr.index 122 (.agg #[.func (.func 71) #[.pointer (some ⟨g, 1, none⟩)] #[], .func (.func 71) #[.pointer (some ⟨g, 8, none⟩)] #[]]) (.int .i64 1)).run Tryz.prog w' = .ok (.func (.func 71) #[.pointer (some ⟨g, 8, none⟩)] #[]) w' := fun _ => rfl
  go_wp2_with fail
  go_loopw [6, 47] (fun _ kv wr => (kv = .int .i64 0 ∧ Bk wr g 120 (dkA (x + n) qu su lu mu bu qv sv lv mv bv) ∧ w.grownBy wr (some g)) ∨ (kv = .int .i64 1 ∧ Bk wr g 120 (dkA (x + n) q1 su l1 mu bu qv sv lv mv bv) ∧ w.grownBy wr (some g)) ∨ (kv = .int .i64 2 ∧ Bk wr g 120 (dkA (x + n) q1 su l1 mu bu q2 sv l2 mv bv) ∧ w.grownBy wr (some g))) (fun _ kv _ => 2 - (intOf kv).toNat)
  case atStart => exact .inl ⟨rfl, hK1, hg1⟩
  case round =>
    clear hK1 hg1
    rcases hrel with ⟨rfl, hK, hg⟩ | ⟨rfl, hK, hg⟩ | ⟨rfl, hK, hg⟩
    · go_wp2_with (go_at_call 71; (with_reducible refine (hN1 _ (by exact hK)).mono ?_); rintro e w2 ⟨rfl, hK2, hg2⟩)
      exact ⟨.inr (.inl ⟨rfl, hK2, gb_trans hg hg2 (fun g e => .inl e)⟩), by simp [intOf]⟩
    · go_wp2_with (go_at_call 71; (with_reducible refine (hN2 _ (by exact hK)).mono ?_); rintro e w2 ⟨rfl, hK2, hg2⟩)
      exact ⟨.inr (.inr ⟨rfl, hK2, gb_trans hg hg2 (fun g e => .inl e)⟩), by simp [intOf]⟩
    · go_wp2_with fail
      go_returns
      exact ⟨rfl, hK, hg⟩
theorem dwnext_any (u : Nat → Int) (d x y : Int) (g : Nat) (w : World) (hK : Bk w g 120 (ddT u d x y)) (h : DdOk u d x y) :
    Calls Tryz.prog 31 #[.pointer (some ⟨g, 0, none⟩)] w fun e w' => e = .returned (.tuple #[.int .i64 (plc (smR (u 0) (u 1) (u 2) x y 1) (d * 1)), .int .i64 (plc (smR (u 3) (u 4) (u 5) x y 1) (d * 1)), .bool true]) ∧
      Bk w' g 120 (ddT u d (x + 1) y) ∧ w.grownBy w' (some g) := by
  have hp := dds_pos h.d0
  have hp2 : dds d * d ≤ 562949953421312 := by have := h.d1; unfold dds; split <;> omega
  have x0 := h.x0
  have x1 := h.x1
  have y0 := h.y0
  have y1 := h.y1
  have h1 := dwnext_gen g x _ _ _ _ _ _ _ _ _ _ w hK ⟨x0, x1⟩ (dxOk hp hp2 (ddA_bd h.u0 ⟨by omega, by omega⟩ ⟨by omega, by omega⟩) (ddG_bd h.u0)) (dxOk hp hp2 (ddA_bd h.v0 ⟨by omega, by omega⟩ ⟨by omega, by omega⟩) (ddG_bd h.v0))
  rw [ddA_cut h.d0, ddA_cut h.d0, (dd_nxt hp).1, (dd_nxt hp).2, (dd_nxt hp).1, (dd_nxt hp).2] at h1
  have e1 := ddA_step (u 0) (u 1) (u 2) d x y 1
  have e2 := ddA_step (u 3) (u 4) (u 5) d x y 1
  rw [Int.one_mul] at e1 e2
  rw [e1, e2] at h1
  exact h1
theorem dwskip_any (u : Nat → Int) (d x y n : Int) (g : Nat) (w : World) (hK : Bk w g 120 (ddT u d x y)) (h : DdOk u d x y) (hn : 0 ≤ n ∧ x + n ≤ 1048576) :
    Calls Tryz.prog 32 #[.pointer (some ⟨g, 0, none⟩), .int .i64 n] w fun e w' => e = .returned (.bool true) ∧
      Bk w' g 120 (ddT u d (x + n) y) ∧ w.grownBy w' (some g) := by
  have hp := dds_pos h.d0
  have hp2 : dds d * d ≤ 562949953421312 := by have := h.d1; unfold dds; split <;> omega
  have x0 := h.x0
  have x1 := h.x1
  have y0 := h.y0
  have y1 := h.y1
  have h1 := dwskip_gen g x _ _ _ _ _ _ _ _ _ _ n w hK ⟨x0, x1⟩ ⟨hn.1, by omega⟩ (skOk hp hp2 (ddA_bd h.u0 ⟨by omega, by omega⟩ ⟨by omega, by omega⟩) (ddG_bd h.u0) ⟨hn.1, by omega⟩) (skOk hp hp2 (ddA_bd h.v0 ⟨by omega, by omega⟩ ⟨by omega, by omega⟩) (ddG_bd h.v0) ⟨hn.1, by omega⟩)
  rw [(dd_skp hp).1, (dd_skp hp).2, (dd_skp hp).1, (dd_skp hp).2, ddA_step, ddA_step] at h1
  exact h1
end Go.Proofs.YtmnnilkdaibgkaaGreat
end
