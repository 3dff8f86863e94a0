/- hdda: Next, Skip, X. -/
import Derived.Test.YtebcienjeponmaaHd3
set_option linter.unusedVariables false
namespace Go.Proofs.Ytebcienjeponmaa
open Go.RowKit
/-- A walk that stands at a column of a row. -/
def wkT (a : Nat → Int) (x y : Int) : Array Value := wkA x (smR (a 0) (a 1) (a 2) x y 1) (a 0) (smR (a 3) (a 4) (a 5) x y 1) (a 3) (smR (a 6) (a 7) (a 8) x y 1) (a 6)
theorem smR_step (p q r x y n : Int) : smR p q r x y 1 + p * n = smR p q r (x + n) y 1 := by
  unfold smR
  rw [Int.mul_add]; omega
theorem wkK_3 (a : Nat → Int) (x y n : Int) : wkK x (smR (a 0) (a 1) (a 2) x y 1) (a 0) (smR (a 3) (a 4) (a 5) x y 1) (a 3) (smR (a 6) (a 7) (a 8) x y 1) (a 6) n 3 = wkT a (x + n) y := by
  simp only [wkK, wkT, smR_step]
/-- Where a walk may stand. -/
structure WkOk (a : Nat → Int) (x y : Int) : Prop where
  ad : AdOk a
  x0 : -1048576 ≤ x
  x1 : x ≤ 1048577
  y0 : -1048576 ≤ y
  y1 : y ≤ 1048576
theorem ln_st {p q r x y n : Int} (h : LnOk p q r) (hx : -1048577 ≤ x ∧ x ≤ 1048577) (hy : -1048576 ≤ y ∧ y ≤ 1048576) (hn : 0 ≤ n ∧ n ≤ 4194304) : StOk (smR p q r x y 1) p n := by
  obtain ⟨b0, b1⟩ := mulbd h.x0 h.x1 (show -1048577 ≤ x by omega) hx.2
  obtain ⟨b2, b3⟩ := mulbd h.y0 h.y1 hy.1 hy.2
  obtain ⟨b4, b5⟩ := mulbd h.x0 h.x1 (show -4194304 ≤ n by omega) hn.2
  have := h.x0
  have := h.x1
  have := h.z0
  have := h.z1
  refine ⟨⟨by omega, by omega⟩, ?_, ⟨by omega, by omega⟩, ?_⟩
  · unfold Wd smR; omega
  · unfold Wd smR; omega
theorem results_tmp3 {P : Program} {fn : Func} {p q r : Tmp} (h : fn.results = #[.tmp p, .tmp q, .tmp r]) (tmps : Array Value) (w : World) : (results fn tmps).run P w = .ok (.tuple #[tmps.getD p undef, tmps.getD q undef, tmps.getD r undef]) w := by
  simp [results, h]
theorem next_nil (w : World) : Calls Try.prog 27 #[.pointer none] w fun e w' => e = .returned (.tuple #[.int .i64 0, .int .i64 0, .int .i64 10]) ∧ w = w' := by
  go_enter_defers Try.func27, Try.ntmps27
  go_wp2_with fail
  exact ⟨_, results_tmp3 rfl _ _, rfl, rfl⟩
set_option maxRecDepth 100000 in
set_option maxHeartbeats 4000000 in
theorem next_far (a : Nat → Int) (g : Nat) (x y : Int) (w : World) (hK : Bk w g 94 (wkT a x y)) (hx : 1048576 < x) :
    Calls Try.prog 27 #[.pointer (some ⟨g, 0, none⟩)] w fun e w' => e = .returned (.tuple #[.int .i64 0, .int .i64 0, .int .i64 11]) ∧ w = w' := by
  obtain ⟨c0, c1, c2, c3, c4, c5, c6, c7, c8, c9, c10⟩ := hK.cell11
  go_enter_defers Try.func27, Try.ntmps27
  go_wp2_with fail
  exact ⟨_, results_tmp3 rfl _ _, rfl, rfl⟩
set_option maxRecDepth 100000 in
set_option maxHeartbeats 4000000 in
theorem next_any (a : Nat → Int) (g : Nat) (x y : Int) (w : World) (hK : Bk w g 94 (wkT a x y)) (h : WkOk a x y) (hx : x ≤ 1048576) :
    Calls Try.prog 27 #[.pointer (some ⟨g, 0, none⟩)] w fun e w' => e = .returned (.tuple #[.int .i64 (atX a x y 1), .int .i64 (atY a x y 1), .int .i64 (atE a x y 1)]) ∧ Bk w' g 94 (wkT a (x + 1) y) ∧ w.grownBy w' (some g) := by
  have hp : rightH x y 1 = true := rightH_iff.2 ⟨⟨h.x0, hx⟩, ⟨h.y0, h.y1⟩, by omega, by omega⟩
  have x0 := h.x0
  have su := ln_st h.ad.u (x := x) (y := y) (n := 1) ⟨by have := h.x0; omega, h.x1⟩ ⟨h.y0, h.y1⟩ (by omega)
  have sv := ln_st h.ad.v (x := x) (y := y) (n := 1) ⟨by have := h.x0; omega, h.x1⟩ ⟨h.y0, h.y1⟩ (by omega)
  have sb := ln_st h.ad.s (x := x) (y := y) (n := 1) ⟨by have := h.x0; omega, h.x1⟩ ⟨h.y0, h.y1⟩ (by omega)
  have hD := fun (w' : World) (hk : Bk w' g 94 (wkT a x y)) => wstep_d g x _ (a 0) _ (a 3) _ (a 6) 1 w' .returning hk (by unfold J64; omega) (by omega) su sv sb
  rw [wkK_3] at hD
  have hK0 := hK
  obtain ⟨c0, c1, c2, c3, c4, c5, c6, c7, c8, c9, c10⟩ := hK.cell11
  have hu : undR a x y 1 = smR (a 6) (a 7) (a 8) x y 1 := by unfold undR smR; rw [if_pos hp]
  have hj := und_j64 (px := x) (py := y) (d := 1) h.ad
  have q1 := sm_wq h.ad.u hp
  have q2 := sm_wq h.ad.v hp
  rw [← hu] at c7 c8
  have hF := fun w' => fits64_yes (undR a x y 1) w' hj
  clear su sv sb
  by_cases hz : undR a x y 1 = 0
  · have E1 : atX a x y 1 = 0 := by simp [atX, hz]
    have E2 : atY a x y 1 = 0 := by simp [atY, hz]
    have E3 : atE a x y 1 = 41 := by simp [atE, hp, hz]
    rw [E1, E2, E3]
    rw [hz] at hF c7 c8
    clear E1 E2 E3 hp hu hz hj q1 q2 h
    go_enter_defers Try.func27, Try.ntmps27
    go_wp2_with fail
    refine (hF _).mono ?_
    rintro e w1 ⟨rfl, hb1⟩
    replace hK := hK.nx hb1
    clear c0 c1 c2 c3 c4 c5 c6 c7 c8 c9 c10
    go_wp2_with fail
    refine leaves_cons (f := 53) (args := #[.pointer (some ⟨g, 0, none⟩), .int .i64 1]) (by simp) (by simp [go_sem]) ?_
    refine (hD _ hK).mono ?_
    rintro e u' w2 ⟨rfl, rfl, hK2, hg2⟩
    exact ⟨_, results_tmp3 rfl _ _, rfl, hK2, gb_trans (gb_of_below hb1) hg2 (fun g e => .inl e)⟩
  · have E1 : atX a x y 1 = plc (smR (a 0) (a 1) (a 2) x y 1) (undR a x y 1) := by simp [atX, hp, hz]
    have E2 : atY a x y 1 = plc (smR (a 3) (a 4) (a 5) x y 1) (undR a x y 1) := by simp [atY, hp, hz]
    have E3 : atE a x y 1 = 0 := by simp [atE, hp, hz]
    rw [E1, E2, E3]
    have hV1 := fun (w' : World) (hk : Bk w' g 94 (wkT a x y)) => over_any g 1 (smR (a 0) (a 1) (a 2) x y 1) (undR a x y 1) w' (hk.cell11).2.1 (hk.cell11).2.2.1 q1 hz hj
    have hV2 := fun (w' : World) (hk : Bk w' g 94 (wkT a x y)) => over_any g 4 (smR (a 3) (a 4) (a 5) x y 1) (undR a x y 1) w' (hk.cell11).2.2.2.2.1 (hk.cell11).2.2.2.2.2.1 q2 hz hj
    have hzb : (undR a x y 1 == 0) = false := by simpa using hz
    clear E1 E2 E3 hp hu hz hj q1 q2 h
    generalize plc (smR (a 0) (a 1) (a 2) x y 1) (undR a x y 1) = p1 at *
    generalize plc (smR (a 3) (a 4) (a 5) x y 1) (undR a x y 1) = p2 at *
    generalize undR a x y 1 = u at *
    go_enter_defers Try.func27, Try.ntmps27
    go_wp2_with fail
    refine (hF _).mono ?_
    rintro e w1 ⟨rfl, hb1⟩
    replace hK := hK.nx hb1
    clear c0 c1 c2 c3 c4 c5 c6 c7 c8 c9 c10
    go_upto_region 9 with fail
    have hW1 := fun (n : Nat) (os : Array Obj) => hV1 (Go.Sort.grow (redrawn w1 n) os) (hK.nx (below_regrown w1 n os))
    have hW2 := fun (n : Nat) (os : Array Obj) => hV2 (Go.Sort.grow (redrawn w1 n) os) (hK.nx (below_regrown w1 n os))
    refine wp_region_quiet_below (by kernel_rfl) (by kernel_rfl) ?_
    repeat (first | go_big_quiet_step ((first | with_reducible exact quiet_below (hW1 _ _) | with_reducible exact quiet_below (hW2 _ _))) | quiet_step ((first | with_reducible exact quiet_below (hW1 _ _) | with_reducible exact quiet_below (hW2 _ _))))
    refine wpQuiet_nil ?_
    intro _ hw'
    obtain ⟨⟨d9, os⟩, hw''⟩ := hw'
    subst hw''
    have hbx := below_regrown w1 d9 os
    replace hb1 := hb1.trans (hbx.mono hb1.size)
    replace hK := hK.nx hbx
    clear hW1 hW2 hV1 hV2
    generalize Go.Sort.grow (redrawn w1 d9) os = wx at *
    go_wp2_with fail
    refine leaves_cons (f := 53) (args := #[.pointer (some ⟨g, 0, none⟩), .int .i64 1]) (by simp) (by simp [go_sem]) ?_
    refine (hD _ hK).mono ?_
    rintro e u' w2 ⟨rfl, rfl, hK2, hg2⟩
    exact ⟨_, results_tmp3 rfl _ _, rfl, hK2, gb_trans (gb_of_below hb1) hg2 (fun g e => .inl e)⟩
end Go.Proofs.Ytebcienjeponmaa
