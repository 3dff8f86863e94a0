/- boxes: of one place, of four. -/
import Derived.Test.YtlbiiljncacdoaaGreatBx2
set_option linter.unusedVariables false
namespace Go.Proofs.YtlbiiljncacdoaaGreat
open Go.RowKit
attribute [local go_sem high] run_maxM run_minM
set_option maxRecDepth 100000 in
set_option maxHeartbeats 4000000 in
theorem pat_any (p : Option Addr) (a b c d n x y u v er : Int) (w : World) (hn : 0 ≤ n ∧ n ≤ 8)
    (hA : ∀ w', Below w.heap.size w w' → Calls Tryz.prog 24 #[.pointer p, .int .i64 x, .int .i64 y, .int .i64 (paD n)] w' fun e w'' => e = .returned (.tuple #[.int .i64 u, .int .i64 v, .int .i64 er]) ∧ Below w'.heap.size w' w'') :
    Calls Tryz.prog 171 #[paV p a b c d n, .int .i64 x, .int .i64 y] w fun e w' => e = .returned (rc_rect4 u v u v) ∧ Below w.heap.size w w' := by
  have hL := ((Lie.start w).alloc (paA p a b c d n) 162).alloc (rc_rectA 0 0 0 0) 83
  simp only [World.size_alloc] at hL
  have k0 := hL.k 1 (by simp)
  have k1 := hL.k 0 (by simp)
  simp only [List.getElem_cons_zero, List.getElem_cons_succ] at k0 k1
  have hP := fun w' => pparts_any p a b c d n w' hn
  go_enter Tryz.func171, Tryz.ntmps171
  go_wp2_with fail
  generalize hw1 : (w.alloc (.cells (paA p a b c d n) 162)).alloc (.cells (rc_rectA 0 0 0 0) 83) = w1 at *
  clear hw1
  replace hA := fun w' (hb : Below w1.heap.size w1 w') => hA w' (hL.bel.trans (hb.mono hL.sz))
  obtain ⟨d0, d1, d2, d3, d4, d5⟩ := k0.cell6
  clear d1 d2 d3 d4 d5
  have r0 := fun (n : Nat) (os : Array Obj) => cell_regrown d0 n os
  have hA2 := fun (n : Nat) (os : Array Obj) => hA _ (below_regrown w1 n os)
  clear hA
  generalize paD n = D at *
  refine wp_region_quiet_below (by kernel_rfl) (by kernel_rfl) ?_
  repeat (first
    | (refine wpQuiet_load rfl _ _ rfl k0 rfl Tryz.underlying162 rfl pa_size ?_; simp only [Act.put, List.setIfInBounds_toArray, List.set_cons_zero, List.set_cons_succ])
    | go_big_quiet_step ((first | with_reducible exact quiet_below (hP _) | with_reducible exact quiet_below (hA2 _ _)))
    | quiet_step ((first | with_reducible exact quiet_below (hP _) | with_reducible exact quiet_below (hA2 _ _))))
  refine wpQuiet_nil ?_
  intro _ hw'
  obtain ⟨⟨dd, os⟩, hw''⟩ := hw'
  subst hw''
  have hbx := below_regrown w1 dd os
  generalize Go.Sort.grow (redrawn w1 dd) os = wx at *
  have hLx := hL.nx hbx
  have k1x := k1.nx hbx
  clear r0 hA2 hP
  go_wp2_with (refine stB (ty := 83) (cells := rc_rectA u v u v) rfl _ _ rfl k1x rfl rfl bx_size rfl (by simp [Value.oneCell']) ?_; intro w2 k42 hg2 hs2)
  refine bodyPost_ret (res_cell rfl k42 rfl Tryz.underlying83 rfl bx_size) rfl ?_
  exact ⟨rfl, below_of_gb hLx.bel hg2 (by omega) hLx.sz⟩
/-- The box of four places, the map's numbers being F, G. -/
def coU (F : Int → Int → Int) (x0 y0 x1 y1 : Int) : Int := min (F x0 y0) (min (F x1 y0) (min (F x0 y1) (F x1 y1)))
def coV (F : Int → Int → Int) (x0 y0 x1 y1 : Int) : Int := max (F x0 y0) (max (F x1 y0) (max (F x0 y1) (F x1 y1)))
set_option maxRecDepth 100000 in
set_option maxHeartbeats 8000000 in
theorem corners_any (p : Option Addr) (a b c d n : Int) (F G E : Int → Int → Int) (w : World) (hn : 0 ≤ n ∧ n ≤ 8) (ha : 0 ≤ a ∧ a ≤ 32768) (hb : 0 ≤ b ∧ b ≤ 32768) (hc : 1 ≤ c ∧ c ≤ 32768) (hd : 1 ≤ d ∧ d ≤ 32768)
    (hA : ∀ x y w', Below w.heap.size w w' → Calls Tryz.prog 24 #[.pointer p, .int .i64 x, .int .i64 y, .int .i64 (paD n)] w' fun e w'' => e = .returned (.tuple #[.int .i64 (F x y), .int .i64 (G x y), .int .i64 (E x y)]) ∧ Below w'.heap.size w' w'') :
    Calls Tryz.prog 113 #[paV p a b c d n] w fun e w' => e = .returned (rc_rect4 (coU F (paF n a) (paF n b) (paL n (c - 1)) (paL n (d - 1))) (coU G (paF n a) (paF n b) (paL n (c - 1)) (paL n (d - 1))) (coV F (paF n a) (paF n b) (paL n (c - 1)) (paL n (d - 1))) (coV G (paF n a) (paF n b) (paL n (c - 1)) (paL n (d - 1)))) ∧ Below w.heap.size w w' := by
  have hL := ((Lie.start w).alloc (paA p a b c d n) 162).alloc (rc_rectA 0 0 0 0) 83
  simp only [World.size_alloc] at hL
  have k0 := hL.k 1 (by simp)
  have k1 := hL.k 0 (by simp)
  simp only [List.getElem_cons_zero, List.getElem_cons_succ] at k0 k1
  have hP := fun (x y : Int) w' (hb : Below w.heap.size w w') => pat_any p a b c d n x y (F x y) (G x y) (E x y) w' hn (fun w'' hb' => hA x y w'' (hb.trans (hb'.mono hb.size)))
  have hF1 := fun w' => pfirst_any p a b c d n a w' hn (by omega)
  have hF2 := fun w' => pfirst_any p a b c d n b w' hn (by omega)
  have hF3 := fun w' => plast_any p a b c d n (c - 1) w' hn (by omega)
  have hF4 := fun w' => plast_any p a b c d n (d - 1) w' hn (by omega)
  have e1 : IntKind.i64.wrap (c - 1) = c - 1 := IntWalk.i64_in _ ⟨by omega, by omega⟩
  have e2 : IntKind.i64.wrap (d - 1) = d - 1 := IntWalk.i64_in _ ⟨by omega, by omega⟩
  clear hA hn ha hb hc hd
  generalize paF n a = x0 at *
  generalize paF n b = y0 at *
  generalize paL n (c - 1) = x1 at *
  generalize paL n (d - 1) = y1 at *
  go_enter Tryz.func113, Tryz.ntmps113
  go_wp2_with fail
  generalize hw1 : (w.alloc (.cells (paA p a b c d n) 162)).alloc (.cells (rc_rectA 0 0 0 0) 83) = w1 at *
  clear hw1
  obtain ⟨d0, d1, d2, d3, d4, d5⟩ := k0.cell6
  have r1 := fun (n : Nat) (os : Array Obj) => cell_regrown d1 n os
  have r2 := fun (n : Nat) (os : Array Obj) => cell_regrown d2 n os
  have r3 := fun (n : Nat) (os : Array Obj) => cell_regrown d3 n os
  have r4 := fun (n : Nat) (os : Array Obj) => cell_regrown d4 n os
  refine wp_region_quiet_below (by kernel_rfl) (by kernel_rfl) ?_
  repeat (first
    | (refine wpQuiet_load rfl _ _ rfl k0 rfl Tryz.underlying162 rfl pa_size ?_; simp only [Act.put, List.setIfInBounds_toArray, List.set_cons_zero, List.set_cons_succ])
    | go_big_quiet_step ((first | with_reducible exact quiet_below (hF1 _) | with_reducible exact quiet_below (hF2 _) | with_reducible exact quiet_below (hF3 _) | with_reducible exact quiet_below (hF4 _)))
    | quiet_step ((first | with_reducible exact quiet_below (hF1 _) | with_reducible exact quiet_below (hF2 _) | with_reducible exact quiet_below (hF3 _) | with_reducible exact quiet_below (hF4 _))))
  refine wpQuiet_nil ?_
  intro _ hw'
  obtain ⟨⟨dd, os⟩, hw''⟩ := hw'
  subst hw''
  have hbx := below_regrown w1 dd os
  generalize Go.Sort.grow (redrawn w1 dd) os = wx at *
  have hLx := hL.nx hbx
  have k0x := k0.nx hbx
  have k1x := k1.nx hbx
  have hbX := hLx.bel
  clear r1 r2 r3 r4 d0 d1 d2 d3 d4 d5 hF1 hF2 hF3 hF4 k0 k1 hL hbx e1 e2
  go_wp2_with (refine ldB rfl _ _ rfl k0x rfl Tryz.underlying162 rfl pa_size ?_)
  refine (hP x0 y0 wx hbX).mono ?_
  rintro e w2 ⟨rfl, hb_w2⟩
  have hz_w2 := hbX.trans (hb_w2.mono hbX.size)
  go_wp2_with fail
  refine (hP x1 y0 w2 hz_w2).mono ?_
  rintro e w3 ⟨rfl, hb_w3⟩
  have hz_w3 := hz_w2.trans (hb_w3.mono hz_w2.size)
  go_wp2_with (go_at_call 55; (with_reducible refine (around_any _ _ _ _ _ _ _ _ _).mono ?_); rintro e w4 ⟨rfl, hb_w4⟩; have hz_w4 := hz_w3.trans (hb_w4.mono hz_w3.size))
  refine (hP x0 y1 w4 hz_w4).mono ?_
  rintro e w5 ⟨rfl, hb_w5⟩
  have hz_w5 := hz_w4.trans (hb_w5.mono hz_w4.size)
  go_wp2_with fail
  refine (hP x1 y1 w5 hz_w5).mono ?_
  rintro e w6 ⟨rfl, hb_w6⟩
  have hz_w6 := hz_w5.trans (hb_w6.mono hz_w5.size)
  have k1z := ((((k1x.nx hb_w2).nx hb_w3).nx hb_w4).nx hb_w5).nx hb_w6
  have hLz := ((((hLx.nx hb_w2).nx hb_w3).nx hb_w4).nx hb_w5).nx hb_w6
  clear hP k0x k1x hLx hbX hz_w2 hz_w3 hz_w4 hz_w5 hb_w2 hb_w3 hb_w4 hb_w5 hb_w6
  go_wp2_with (first
    | (go_at_call 55; (with_reducible refine (around_any (F x0 y1) _ _ _ _ _ _ _ _).mono ?_); rintro e w7 ⟨rfl, hb_w7⟩; have hL7 := hLz.nx hb_w7; have k17 := k1z.nx hb_w7)
    | (go_at_call 55; (with_reducible refine (around_any (min (F x0 y0) (F x1 y0)) _ _ _ _ _ _ _ _).mono ?_); rintro e w8 ⟨rfl, hb_w8⟩; have hL8 := hL7.nx hb_w8; have k18 := k17.nx hb_w8)
    | (refine stB (ty := 83) (cells := rc_rectA (min (F x0 y0) (min (F x1 y0) (min (F x0 y1) (F x1 y1)))) (min (G x0 y0) (min (G x1 y0) (min (G x0 y1) (G x1 y1)))) (max (F x0 y0) (max (F x1 y0) (max (F x0 y1) (F x1 y1)))) (max (G x0 y0) (max (G x1 y0) (max (G x0 y1) (G x1 y1))))) rfl _ _ rfl k18 rfl rfl bx_size rfl (by simp [Value.oneCell']) ?_; intro w9 k19 hg9 hs9))
  refine bodyPost_ret (res_cell rfl k19 rfl Tryz.underlying83 rfl bx_size) rfl ?_
  exact ⟨rfl, below_of_gb hL8.bel hg9 (by omega) hL8.sz⟩
end Go.Proofs.YtlbiiljncacdoaaGreat
