/- Several texts in one: Rectangles within others; boxes: has, around. boxes: parts of images, their outermost places. boxes: of one place, of four. boxes: of a part of an image, by a map whose least and greatest stand at corners. What xform.New answers of an affine transform; boxes: has, in another image; the chapter's example. -/
import Derived.Test.YtlbiiljncacdoaaGreatKA
import Derived.Test.YtlbiiljncacdoaaGreatQTail
import Derived.Laws.StructEq
import Derived.Test.YtlbiiljncacdoaaGreatNP
import Derived.Test.YtlbiiljncacdoaaGreatK9
section
set_option linter.unusedVariables false
namespace Go.Proofs.YtlbiiljncacdoaaGreat
open Go.RowKit
attribute [local go_sem high] run_maxM run_minM
theorem eq4_bool (a b c d e f g h : Int) : decide ((a, b, c, d) = (e, f, g, h)) = ((a == e) && ((b == f) && ((c == g) && (d == h)))) := by
  by_cases h1 : a = e <;> by_cases h2 : b = f <;> by_cases h3 : c = g <;> by_cases h4 : d = h <;> simp [h1, h2, h3, h4]
theorem eql_rect (a b c d e f g h : Int) (w : World) : (binOp .eql 78 (rc_rect4 a b c d) (rc_rect4 e f g h)).run Tryz.prog w = .ok (.bool (decide ((a, b, c, d) = (e, f, g, h)))) w := by
  rw [eq4_bool]
  simp [go_sem, Tryz.underlying78]
  by_cases h1 : a = e <;> by_cases h2 : b = f <;> by_cases h3 : c = g <;> by_cases h4 : d = h <;> simp [h1, h2, h3, h4]
theorem eql_box (a b c d e f g h : Int) (w : World) : (binOp .eql 83 (rc_rect4 a b c d) (rc_rect4 e f g h)).run Tryz.prog w = .ok (.bool (decide ((a, b, c, d) = (e, f, g, h)))) w := by
  rw [eq4_bool]
  simp [go_sem, Tryz.underlying83]
  by_cases h1 : a = e <;> by_cases h2 : b = f <;> by_cases h3 : c = g <;> by_cases h4 : d = h <;> simp [h1, h2, h3, h4]
theorem neq_box (a b c d e f g h : Int) (w : World) : (binOp .neq 83 (rc_rect4 a b c d) (rc_rect4 e f g h)).run Tryz.prog w = .ok (.bool (!decide ((a, b, c, d) = (e, f, g, h)))) w := by
  rw [eq4_bool]
  simp [go_sem, Tryz.underlying83]
  by_cases h1 : a = e <;> by_cases h2 : b = f <;> by_cases h3 : c = g <;> by_cases h4 : d = h <;> simp [h1, h2, h3, h4]
set_option maxRecDepth 100000 in
set_option maxHeartbeats 4000000 in
theorem rcin_any (a b c d e f g h : Int) (w : World) (h1 : ¬ rc_emptyR a b c d) : Calls Tryz.prog 110 #[rc_rect4 a b c d, rc_rect4 e f g h] w fun e' w' => e' = .returned (.bool (decide (bothR a b c d e f g h = (a, b, c, d)))) ∧ Below w.heap.size w w' := by
  have hL := ((Lie.start w).alloc (rc_rectA a b c d) 78).alloc (rc_rectA e f g h) 78
  simp only [World.size_alloc] at hL
  have k2 := hL.k 1 (by simp)
  have k3 := hL.k 0 (by simp)
  simp only [List.getElem_cons_zero, List.getElem_cons_succ] at k2 k3
  have hE1 := fun w' => rc_empty_any a b c d w'
  rw [show decide (rc_emptyR a b c d) = false from decide_eq_false h1] at hE1
  have hB := fun w' => both_any a b c d e f g h w'
  obtain ⟨⟨p, q, r, s⟩, hP⟩ : ∃ p, bothR a b c d e f g h = p := ⟨_, rfl⟩
  rw [hP] at hB ⊢
  clear hP h1
  dsimp only [rcv] at hB
  have hq := eql_rect p q r s a b c d
  go_enter Tryz.func110, Tryz.ntmps110
  go_wp2_with fail
  generalize hw1 : (w.alloc (.cells (rc_rectA a b c d) 78)).alloc (.cells (rc_rectA e f g h) 78) = w1 at *
  clear hw1
  obtain ⟨d0, d1, d2, d3⟩ := k2.cell4
  obtain ⟨f0, f1, f2, f3⟩ := k3.cell4
  have r0 := fun (n : Nat) (os : Array Obj) => cell_regrown d0 n os
  have r1 := fun (n : Nat) (os : Array Obj) => cell_regrown d1 n os
  have r2 := fun (n : Nat) (os : Array Obj) => cell_regrown d2 n os
  have r3 := fun (n : Nat) (os : Array Obj) => cell_regrown d3 n os
  have s0 := fun (n : Nat) (os : Array Obj) => cell_regrown f0 n os
  have s1 := fun (n : Nat) (os : Array Obj) => cell_regrown f1 n os
  have s2 := fun (n : Nat) (os : Array Obj) => cell_regrown f2 n os
  have s3 := fun (n : Nat) (os : Array Obj) => cell_regrown f3 n os
  refine wp_region_quiet_below (by kernel_rfl) (by kernel_rfl) ?_
  repeat (first
    | go_big_quiet_step ((first | with_reducible exact quiet_below (hE1 _) | with_reducible exact quiet_below (hB _)))
    | quiet_step ((first | with_reducible exact quiet_below (hE1 _) | with_reducible exact quiet_below (hB _))))
  refine wpQuiet_nil ?_
  intro _ hw'
  obtain ⟨⟨dd, os⟩, hw''⟩ := hw'
  subst hw''
  have hbx := below_regrown w1 dd os
  generalize Go.Sort.grow (redrawn w1 dd) os = wx at *
  have hb := (hL.nx hbx).bel
  clear r0 r1 r2 r3 s0 s1 s2 s3 hE1 hB
  go_wp2_with fail
  go_returns
  exact ⟨ret_bool (by simp), hb⟩
end Go.Proofs.YtlbiiljncacdoaaGreat
end
section
set_option linter.unusedVariables false
namespace Go.Proofs.YtlbiiljncacdoaaGreat
open Go.RowKit
attribute [local go_sem high] run_maxM run_minM
abbrev paA (p : Option Addr) (a b c d n : Int) : Array Value := #[.pointer p, .int .i64 a, .int .i64 b, .int .i64 c, .int .i64 d, .int .i64 n]
abbrev paV (p : Option Addr) (a b c d n : Int) : Value := .agg (paA p a b c d n)
section
variable {w : World} {g : Nat} {t : TypeId} {v0 v1 v2 v3 v4 v5 : Value}
theorem Bk.cell6 (h : Bk w g t #[v0, v1, v2, v3, v4, v5]) : w.cell? ⟨g, 0, none⟩ = some v0 ∧ w.cell? ⟨g, 1, none⟩ = some v1 ∧ w.cell? ⟨g, 2, none⟩ = some v2 ∧ w.cell? ⟨g, 3, none⟩ = some v3 ∧ w.cell? ⟨g, 4, none⟩ = some v4 ∧ w.cell? ⟨g, 5, none⟩ = some v5 :=
  ⟨by rw [h.cell]; rfl, by rw [h.cell]; rfl, by rw [h.cell]; rfl, by rw [h.cell]; rfl, by rw [h.cell]; rfl, by rw [h.cell]; rfl⟩
end
def paF (n x : Int) : Int := if n = 0 then x else 2 * n * x + 1 - n
def paL (n x : Int) : Int := if n = 0 then x else 2 * n * x + n - 1
def paD (n : Int) : Int := max (2 * n) 1
theorem nx_bd {n x : Int} (hn : 0 ≤ n ∧ n ≤ 8) (hx : -4294967296 ≤ x ∧ x ≤ 4294967296) : -68719476736 ≤ 2 * n * x ∧ 2 * n * x ≤ 68719476736 := by
  have := mulbd (a := 2 * n) (b := x) (A := 16) (B := 4294967296) (by omega) (by omega) (by omega) (by omega)
  omega
set_option maxHeartbeats 1000000 in
theorem pfirst_any (p : Option Addr) (a b c d n x : Int) (w : World) (hn : 0 ≤ n ∧ n ≤ 8) (hx : -4294967296 ≤ x ∧ x ≤ 4294967296) : Calls Tryz.prog 172 #[paV p a b c d n, .int .i64 x] w fun e w' => e = .returned (.int .i64 (paF n x)) ∧ Below w.heap.size w w' := by
  have hb := (Below.refl w.heap.size w).alloc (Nat.le_refl _) (.cells (paA p a b c d n) 162)
  have m := nx_bd hn hx
  by_cases h0 : n = 0
  · have HE : Hid (paF n x = x) := by unfold paF Hid; rw [if_pos h0]
    subst h0
    clear m
    go_enter Tryz.func172, Tryz.ntmps172
    go_wp2_with fail
    go_returns
    exact ⟨by rw [HE.out]; rfl, hb⟩
  · have HE : Hid (paF n x = 2 * n * x + 1 - n) := by unfold paF Hid; rw [if_neg h0]
    have k1 : wrap64 (2 * n) = 2 * n := IntWalk.wrap64_in _ ⟨by omega, by omega⟩
    have k2 : wrap64 (2 * n * x) = 2 * n * x := IntWalk.wrap64_in _ ⟨by omega, by omega⟩
    have k3 : wrap64 (2 * n * x + 1) = 2 * n * x + 1 := IntWalk.wrap64_in _ ⟨by omega, by omega⟩
    have k4 : wrap64 (2 * n * x + 1 - n) = 2 * n * x + 1 - n := IntWalk.wrap64_in _ ⟨by omega, by omega⟩
    have hb0 : (n == 0) = false := by simp [h0]
    clear m h0
    go_enter Tryz.func172, Tryz.ntmps172
    go_wp2_with fail
    go_returns
    exact ⟨by rw [HE.out]; first | rfl | exact ret_int k4, hb⟩
set_option maxHeartbeats 1000000 in
theorem plast_any (p : Option Addr) (a b c d n x : Int) (w : World) (hn : 0 ≤ n ∧ n ≤ 8) (hx : -4294967296 ≤ x ∧ x ≤ 4294967296) : Calls Tryz.prog 173 #[paV p a b c d n, .int .i64 x] w fun e w' => e = .returned (.int .i64 (paL n x)) ∧ Below w.heap.size w w' := by
  have hb := (Below.refl w.heap.size w).alloc (Nat.le_refl _) (.cells (paA p a b c d n) 162)
  have m := nx_bd hn hx
  by_cases h0 : n = 0
  · have HE : Hid (paL n x = x) := by unfold paL Hid; rw [if_pos h0]
    subst h0
    clear m
    go_enter Tryz.func173, Tryz.ntmps173
    go_wp2_with fail
    go_returns
    exact ⟨by rw [HE.out]; rfl, hb⟩
  · have HE : Hid (paL n x = 2 * n * x + n - 1) := by unfold paL Hid; rw [if_neg h0]
    have k1 : wrap64 (2 * n) = 2 * n := IntWalk.wrap64_in _ ⟨by omega, by omega⟩
    have k2 : wrap64 (2 * n * x) = 2 * n * x := IntWalk.wrap64_in _ ⟨by omega, by omega⟩
    have k3 : wrap64 (2 * n * x + n) = 2 * n * x + n := IntWalk.wrap64_in _ ⟨by omega, by omega⟩
    have k4 : wrap64 (2 * n * x + n - 1) = 2 * n * x + n - 1 := IntWalk.wrap64_in _ ⟨by omega, by omega⟩
    have hb0 : (n == 0) = false := by simp [h0]
    clear m h0
    go_enter Tryz.func173, Tryz.ntmps173
    go_wp2_with fail
    go_returns
    exact ⟨by rw [HE.out]; first | rfl | exact ret_int k4, hb⟩
set_option maxHeartbeats 1000000 in
theorem pparts_any (p : Option Addr) (a b c d n : Int) (w : World) (hn : 0 ≤ n ∧ n ≤ 8) : Calls Tryz.prog 213 #[paV p a b c d n] w fun e w' => e = .returned (.int .i64 (paD n)) ∧ Below w.heap.size w w' := by
  have hb := (Below.refl w.heap.size w).alloc (Nat.le_refl _) (.cells (paA p a b c d n) 162)
  have k1 : wrap64 (2 * n) = 2 * n := IntWalk.wrap64_in _ ⟨by omega, by omega⟩
  go_enter Tryz.func213, Tryz.ntmps213
  go_wp2_with fail
  go_returns
  exact ⟨rfl, hb⟩
theorem bx_size : (Tryz.prog.info? 83).map (·.size) = some 4 := by kernel_rfl
theorem pa_size : (Tryz.prog.info? 162).map (·.size) = some 6 := by kernel_rfl
set_option maxRecDepth 100000 in
set_option maxHeartbeats 4000000 in
theorem around_any (a b c d e f g h : Int) (w : World) : Calls Tryz.prog 55 #[rc_rect4 a b c d, rc_rect4 e f g h] w fun e' w' => e' = .returned (rc_rect4 (min a e) (min b f) (max c g) (max d h)) ∧ Below w.heap.size w w' := by
  have hL := (((Lie.start w).alloc (rc_rectA a b c d) 83).alloc (rc_rectA e f g h) 83).alloc (rc_rectA 0 0 0 0) 83
  simp only [World.size_alloc] at hL
  have k4 := hL.k 0 (by simp)
  simp only [List.getElem_cons_zero] at k4
  go_enter Tryz.func55, Tryz.ntmps55
  go_wp2_with (refine stB (ty := 83) (cells := rc_rectA (min a e) (min b f) (max c g) (max d h)) rfl _ _ rfl k4 rfl rfl bx_size rfl (by simp [Value.oneCell']) ?_; intro w2 k42 hg2 hs2)
  refine bodyPost_ret (res_cell rfl k42 rfl Tryz.underlying83 rfl bx_size) rfl ?_
  exact ⟨rfl, below_of_gb hL.bel hg2 (by omega) hL.sz⟩
end Go.Proofs.YtlbiiljncacdoaaGreat
end
section
set_option linter.unusedVariables false
namespace Go.Proofs.YtlbiiljncacdoaaGreat
open Go.RowKit
attribute [local go_sem high] run_maxM run_minM
set_option maxRecDepth 100000 in
set_option maxHeartbeats 4000000 in
theorem pat_any (p : Option Addr) (a b c d n x y u v er : Int) (w : World) (hn : 0 ≤ n ∧ n ≤ 8)
    (hA : ∀ w', Below w.heap.size w w' → Calls Tryz.prog 24 #[.pointer p, .int .i64 x, .int .i64 y, .int .i64 (paD n)] w' fun e w'' => e = .returned (.tuple #[.int .i64 u, .int .i64 v, .int .i64 er]) ∧ Below w'.heap.size w' w'') :
    Calls Tryz.prog 171 #[paV p a b c d n, .int .i64 x, .int .i64 y] w fun e w' => e = .returned (rc_rect4 u v u v) ∧ Below w.heap.size w w' := by
  have hL := ((Lie.start w).alloc (paA p a b c d n) 162).alloc (rc_rectA 0 0 0 0) 83
  simp only [World.size_alloc] at hL
  have k0 := hL.k 1 (by simp)
  have k1 := hL.k 0 (by simp)
  simp only [List.getElem_cons_zero, List.getElem_cons_succ] at k0 k1
  have hP := fun w' => pparts_any p a b c d n w' hn
  go_enter Tryz.func171, Tryz.ntmps171
  go_wp2_with fail
  generalize hw1 : (w.alloc (.cells (paA p a b c d n) 162)).alloc (.cells (rc_rectA 0 0 0 0) 83) = w1 at *
  clear hw1
  replace hA := fun w' (hb : Below w1.heap.size w1 w') => hA w' (hL.bel.trans (hb.mono hL.sz))
  obtain ⟨d0, d1, d2, d3, d4, d5⟩ := k0.cell6
  clear d1 d2 d3 d4 d5
  have r0 := fun (n : Nat) (os : Array Obj) => cell_regrown d0 n os
  have hA2 := fun (n : Nat) (os : Array Obj) => hA _ (below_regrown w1 n os)
  clear hA
  generalize paD n = D at *
  refine wp_region_quiet_below (by kernel_rfl) (by kernel_rfl) ?_
  repeat (first
    | (refine wpQuiet_load rfl _ _ rfl k0 rfl Tryz.underlying162 rfl pa_size ?_; simp only [Act.put, List.setIfInBounds_toArray, List.set_cons_zero, List.set_cons_succ])
    | go_big_quiet_step ((first | with_reducible exact quiet_below (hP _) | with_reducible exact quiet_below (hA2 _ _)))
    | quiet_step ((first | with_reducible exact quiet_below (hP _) | with_reducible exact quiet_below (hA2 _ _))))
  refine wpQuiet_nil ?_
  intro _ hw'
  obtain ⟨⟨dd, os⟩, hw''⟩ := hw'
  subst hw''
  have hbx := below_regrown w1 dd os
  generalize Go.Sort.grow (redrawn w1 dd) os = wx at *
  have hLx := hL.nx hbx
  have k1x := k1.nx hbx
  clear r0 hA2 hP
  go_wp2_with (refine stB (ty := 83) (cells := rc_rectA u v u v) rfl _ _ rfl k1x rfl rfl bx_size rfl (by simp [Value.oneCell']) ?_; intro w2 k42 hg2 hs2)
  refine bodyPost_ret (res_cell rfl k42 rfl Tryz.underlying83 rfl bx_size) rfl ?_
  exact ⟨rfl, below_of_gb hLx.bel hg2 (by omega) hLx.sz⟩
/-- The box of four places, the map's numbers being F, G. -/
def coU (F : Int → Int → Int) (x0 y0 x1 y1 : Int) : Int := min (F x0 y0) (min (F x1 y0) (min (F x0 y1) (F x1 y1)))
def coV (F : Int → Int → Int) (x0 y0 x1 y1 : Int) : Int := max (F x0 y0) (max (F x1 y0) (max (F x0 y1) (F x1 y1)))
set_option maxRecDepth 100000 in
set_option maxHeartbeats 8000000 in
theorem corners_any (p : Option Addr) (a b c d n : Int) (F G E : Int → Int → Int) (w : World) (hn : 0 ≤ n ∧ n ≤ 8) (ha : 0 ≤ a ∧ a ≤ 32768) (hb : 0 ≤ b ∧ b ≤ 32768) (hc : 1 ≤ c ∧ c ≤ 32768) (hd : 1 ≤ d ∧ d ≤ 32768)
    (hA : ∀ x y w', Below w.heap.size w w' → Calls Tryz.prog 24 #[.pointer p, .int .i64 x, .int .i64 y, .int .i64 (paD n)] w' fun e w'' => e = .returned (.tuple #[.int .i64 (F x y), .int .i64 (G x y), .int .i64 (E x y)]) ∧ Below w'.heap.size w' w'') :
    Calls Tryz.prog 113 #[paV p a b c d n] w fun e w' => e = .returned (rc_rect4 (coU F (paF n a) (paF n b) (paL n (c - 1)) (paL n (d - 1))) (coU G (paF n a) (paF n b) (paL n (c - 1)) (paL n (d - 1))) (coV F (paF n a) (paF n b) (paL n (c - 1)) (paL n (d - 1))) (coV G (paF n a) (paF n b) (paL n (c - 1)) (paL n (d - 1)))) ∧ Below w.heap.size w w' := by
  have hL := ((Lie.start w).alloc (paA p a b c d n) 162).alloc (rc_rectA 0 0 0 0) 83
  simp only [World.size_alloc] at hL
  have k0 := hL.k 1 (by simp)
  have k1 := hL.k 0 (by simp)
  simp only [List.getElem_cons_zero, List.getElem_cons_succ] at k0 k1
  have hP := fun (x y : Int) w' (hb : Below w.heap.size w w') => pat_any p a b c d n x y (F x y) (G x y) (E x y) w' hn (fun w'' hb' => hA x y w'' (hb.trans (hb'.mono hb.size)))
  have hF1 := fun w' => pfirst_any p a b c d n a w' hn (by omega)
  have hF2 := fun w' => pfirst_any p a b c d n b w' hn (by omega)
  have hF3 := fun w' => plast_any p a b c d n (c - 1) w' hn (by omega)
  have hF4 := fun w' => plast_any p a b c d n (d - 1) w' hn (by omega)
  have e1 : IntKind.i64.wrap (c - 1) = c - 1 := IntWalk.i64_in _ ⟨by omega, by omega⟩
  have e2 : IntKind.i64.wrap (d - 1) = d - 1 := IntWalk.i64_in _ ⟨by omega, by omega⟩
  clear hA hn ha hb hc hd
  generalize paF n a = x0 at *
  generalize paF n b = y0 at *
  generalize paL n (c - 1) = x1 at *
  generalize paL n (d - 1) = y1 at *
  go_enter Tryz.func113, Tryz.ntmps113
  go_wp2_with fail
  generalize hw1 : (w.alloc (.cells (paA p a b c d n) 162)).alloc (.cells (rc_rectA 0 0 0 0) 83) = w1 at *
  clear hw1
  obtain ⟨d0, d1, d2, d3, d4, d5⟩ := k0.cell6
  have r1 := fun (n : Nat) (os : Array Obj) => cell_regrown d1 n os
  have r2 := fun (n : Nat) (os : Array Obj) => cell_regrown d2 n os
  have r3 := fun (n : Nat) (os : Array Obj) => cell_regrown d3 n os
  have r4 := fun (n : Nat) (os : Array Obj) => cell_regrown d4 n os
  refine wp_region_quiet_below (by kernel_rfl) (by kernel_rfl) ?_
  repeat (first
    | (refine wpQuiet_load rfl _ _ rfl k0 rfl Tryz.underlying162 rfl pa_size ?_; simp only [Act.put, List.setIfInBounds_toArray, List.set_cons_zero, List.set_cons_succ])
    | go_big_quiet_step ((first | with_reducible exact quiet_below (hF1 _) | with_reducible exact quiet_below (hF2 _) | with_reducible exact quiet_below (hF3 _) | with_reducible exact quiet_below (hF4 _)))
    | quiet_step ((first | with_reducible exact quiet_below (hF1 _) | with_reducible exact quiet_below (hF2 _) | with_reducible exact quiet_below (hF3 _) | with_reducible exact quiet_below (hF4 _))))
  refine wpQuiet_nil ?_
  intro _ hw'
  obtain ⟨⟨dd, os⟩, hw''⟩ := hw'
  subst hw''
  have hbx := below_regrown w1 dd os
  generalize Go.Sort.grow (redrawn w1 dd) os = wx at *
  have hLx := hL.nx hbx
  have k0x := k0.nx hbx
  have k1x := k1.nx hbx
  have hbX := hLx.bel
  clear r1 r2 r3 r4 d0 d1 d2 d3 d4 d5 hF1 hF2 hF3 hF4 k0 k1 hL hbx e1 e2
  go_wp2_with (refine ldB rfl _ _ rfl k0x rfl Tryz.underlying162 rfl pa_size ?_)
  refine (hP x0 y0 wx hbX).mono ?_
  rintro e w2 ⟨rfl, hb_w2⟩
  have hz_w2 := hbX.trans (hb_w2.mono hbX.size)
  go_wp2_with fail
  refine (hP x1 y0 w2 hz_w2).mono ?_
  rintro e w3 ⟨rfl, hb_w3⟩
  have hz_w3 := hz_w2.trans (hb_w3.mono hz_w2.size)
  go_wp2_with (go_at_call 55; (with_reducible refine (around_any _ _ _ _ _ _ _ _ _).mono ?_); rintro e w4 ⟨rfl, hb_w4⟩; have hz_w4 := hz_w3.trans (hb_w4.mono hz_w3.size))
  refine (hP x0 y1 w4 hz_w4).mono ?_
  rintro e w5 ⟨rfl, hb_w5⟩
  have hz_w5 := hz_w4.trans (hb_w5.mono hz_w4.size)
  go_wp2_with fail
  refine (hP x1 y1 w5 hz_w5).mono ?_
  rintro e w6 ⟨rfl, hb_w6⟩
  have hz_w6 := hz_w5.trans (hb_w6.mono hz_w5.size)
  have k1z := ((((k1x.nx hb_w2).nx hb_w3).nx hb_w4).nx hb_w5).nx hb_w6
  have hLz := ((((hLx.nx hb_w2).nx hb_w3).nx hb_w4).nx hb_w5).nx hb_w6
  clear hP k0x k1x hLx hbX hz_w2 hz_w3 hz_w4 hz_w5 hb_w2 hb_w3 hb_w4 hb_w5 hb_w6
  go_wp2_with (first
    | (go_at_call 55; (with_reducible refine (around_any (F x0 y1) _ _ _ _ _ _ _ _).mono ?_); rintro e w7 ⟨rfl, hb_w7⟩; have hL7 := hLz.nx hb_w7; have k17 := k1z.nx hb_w7)
    | (go_at_call 55; (with_reducible refine (around_any (min (F x0 y0) (F x1 y0)) _ _ _ _ _ _ _ _).mono ?_); rintro e w8 ⟨rfl, hb_w8⟩; have hL8 := hL7.nx hb_w8; have k18 := k17.nx hb_w8)
    | (refine stB (ty := 83) (cells := rc_rectA (min (F x0 y0) (min (F x1 y0) (min (F x0 y1) (F x1 y1)))) (min (G x0 y0) (min (G x1 y0) (min (G x0 y1) (G x1 y1)))) (max (F x0 y0) (max (F x1 y0) (max (F x0 y1) (F x1 y1)))) (max (G x0 y0) (max (G x1 y0) (max (G x0 y1) (G x1 y1))))) rfl _ _ rfl k18 rfl rfl bx_size rfl (by simp [Value.oneCell']) ?_; intro w9 k19 hg9 hs9))
  refine bodyPost_ret (res_cell rfl k19 rfl Tryz.underlying83 rfl bx_size) rfl ?_
  exact ⟨rfl, below_of_gb hL8.bel hg9 (by omega) hL8.sz⟩
end Go.Proofs.YtlbiiljncacdoaaGreat
end
section
set_option linter.unusedVariables false
namespace Go.Proofs.YtlbiiljncacdoaaGreat
open Go.RowKit
attribute [local go_sem high] run_maxM run_minM
theorem Bk.cell1c {w : World} {g : Nat} {t : TypeId} {x y : Value} (h : Bk w g t #[x, y]) : w.cell? ⟨g, 0, none⟩ = some x := h.cell2.1
theorem whole_in {a b c d W H : Int} (h : ¬ rc_emptyR a b c d) (hW : 1 ≤ W ∧ W ≤ 32768) (hH : 1 ≤ H ∧ H ≤ 32768) (ha : 0 ≤ a) (hb : 0 ≤ b) (hc : c ≤ W) (hd : d ≤ H) : bothR a b c d 0 0 W H = (a, b, c, d) := by
  have e1 : max a 0 = a := by omega
  have e2 : max b 0 = b := by omega
  have e3 : min c W = c := by omega
  have e4 : min d H = d := by omega
  unfold bothR
  rw [e1, e2, e3, e4, if_neg]
  rintro (h1 | h1 | h1)
  · exact h h1
  · simp only [rc_emptyR, rc_rightR, rc_inR] at h1; omega
  · exact h h1
set_option maxRecDepth 100000 in
set_option maxHeartbeats 8000000 in
theorem bof_corner (k : Int) (A : Option Addr) (sn cp : Nat) (W H a b c d n : Int) (F G E : Int → Int → Int → Int) (w : World) (hN : NewIs k A sn cp W H w 0 F G E) (hk : k ≠ 3 ∧ k ≠ 4 ∧ k ≠ 5)
    (hW : 1 ≤ W ∧ W ≤ 32768) (hH : 1 ≤ H ∧ H ≤ 32768) (hr : ¬ rc_emptyR a b c d) (ha : 0 ≤ a) (hb : 0 ≤ b) (hc : c ≤ W) (hd : d ≤ H) (hn : 0 ≤ n ∧ n ≤ 8) :
    Calls Tryz.prog 48 #[.agg #[.int .i64 k, .slice A sn cp], .int .i64 W, .int .i64 H, rc_rect4 a b c d, .int .i64 n] w fun e w' =>
      e = .returned (.tuple #[rc_rect4 (coU (fun x y => F x y (paD n)) (paF n a) (paF n b) (paL n (c - 1)) (paL n (d - 1))) (coU (fun x y => G x y (paD n)) (paF n a) (paF n b) (paL n (c - 1)) (paL n (d - 1))) (coV (fun x y => F x y (paD n)) (paF n a) (paF n b) (paL n (c - 1)) (paL n (d - 1))) (coV (fun x y => G x y (paD n)) (paF n a) (paF n b) (paL n (c - 1)) (paL n (d - 1))), .int .i64 0]) ∧ Below w.heap.size w w' := by
  have hL := (((Lie.start w).alloc #[.int .i64 k, .slice A sn cp] 31).alloc (rc_rectA a b c d) 78).alloc (rc_rectA 0 0 0 0) 83
  simp only [World.size_alloc] at hL
  have k5 := hL.k 2 (by simp)
  have k8 := hL.k 1 (by simp)
  have k10 := hL.k 0 (by simp)
  simp only [List.getElem_cons_zero, List.getElem_cons_succ] at k5 k8 k10
  have hac : a < c ∧ b < d := by simp only [rc_emptyR, rc_rightR, rc_inR] at hr; omega
  have hEm := fun w' => rc_empty_any a b c d w'
  rw [show decide (rc_emptyR a b c d) = false from decide_eq_false hr] at hEm
  have hIn := fun w' => rcin_any a b c d 0 0 W H w' hr
  rw [show decide (bothR a b c d 0 0 W H = (a, b, c, d)) = true from decide_eq_true (whole_in hr hW hH ha hb hc hd)] at hIn
  have hCo := fun (p : Option Addr) (w' : World) hA => corners_any p a b c d n (fun x y => F x y (paD n)) (fun x y => G x y (paD n)) (fun x y => E x y (paD n)) w' hn (by omega) (by omega) (by omega) (by omega) hA
  obtain ⟨hk3, hk4, hk5⟩ := hk
  have b3 : (k == 3) = false := by simp [hk3]
  have b4 : (k == 4) = false := by simp [hk4]
  have b5 : (k == 5) = false := by simp [hk5]
  obtain ⟨hn0, hn8⟩ := hn
  clear hk3 hk4 hk5 hr ha hb hc hd hac hW hH
  go_enter Tryz.func48, Tryz.ntmps48
  go_wp2_with fail
  replace hN := hN _ hL.bel
  generalize hw1 : (((w.alloc (.cells #[.int .i64 k, .slice A sn cp] 31)).alloc (.cells (rc_rectA a b c d) 78)).alloc (.cells (rc_rectA 0 0 0 0) 83)) = w1 at *
  clear hw1
  refine hN.mono ?_
  rintro e w2 ⟨p, rfl, _, hM, hb2⟩
  replace hM := hM rfl
  have hL2 := hL.nx hb2
  have k82 := k8.nx hb2
  have k52 := k5.nx hb2
  have k102 := k10.nx hb2
  clear hN k5 k8 k10 hL
  obtain ⟨g0, g1, g2, g3⟩ := k82.cell4
  go_wp2_with (first
    | (refine rc_ldRect rfl _ rfl k82 rfl ?_)
    | (refine rc_ldRect rfl _ rfl k84 rfl ?_)
    | (go_at_call 109; (with_reducible refine (hEm _).mono ?_); rintro e w3 ⟨rfl, hb3⟩; have k83 := k82.nx hb3; have q3 := k83.cell4; obtain ⟨f0, f1, f2, f3⟩ := q3; have hL3 := hL2.nx hb3)
    | (go_at_call 110; (with_reducible refine (hIn _).mono ?_); rintro e w4 ⟨rfl, hb4⟩; have k84 := k83.nx hb4; have k54 := (k52.nx hb3).nx hb4; have hL4 := hL3.nx hb4; have k104 := (k102.nx hb3).nx hb4)
    | (refine stB (ty := 162) (cells := paA p a b c d n) rfl _ _ rfl (Bk.new w4 162 (paA none 0 0 0 0 0)) rfl rfl pa_size rfl (by simp [Value.oneCell']) ?_; intro w5 k145 hg5 hs5; have hb5 : Below w4.heap.size w4 w5 := below_grown ((Below.refl w4.heap.size w4).alloc (Nat.le_refl _) (.cells (paA none 0 0 0 0 0) 162)) hg5 (Nat.le_refl _) (by simp); have hL5 := hL4.nx hb5; have k55 := k54.nx hb5; have k105 := k104.nx hb5; have q5 := k55.cell1c; have hb25 := (hb3.trans (hb4.mono hb3.size)).trans (hb5.mono (Nat.le_trans hb3.size hb4.size)))
    | (refine ldB rfl _ _ rfl k145 rfl Tryz.underlying162 rfl pa_size ?_)
    | (go_at_call 113; (with_reducible refine (hCo p _ (fun x y w'' hb => hM.at (hb25.trans (hb.mono hb25.size)) x y (paD n))).mono ?_); rintro e w6 ⟨rfl, hb6⟩; have hL6 := hL5.nx hb6; have k106 := k105.nx hb6)
    | (refine stB (ty := 83) rfl _ _ rfl k106 _ rfl rfl bx_size rfl (by simp [Value.oneCell']) ?_; intro w7 k107 hg7 hs7))
  refine bodyPost_ret (res_cell_tmp rfl k107 rfl Tryz.underlying83 rfl bx_size) rfl ?_
  exact ⟨rfl, below_of_gb hL6.bel hg7 (by omega) hL6.sz⟩
end Go.Proofs.YtlbiiljncacdoaaGreat
end
section
set_option linter.unusedVariables false
namespace Go.Proofs.YtlbiiljncacdoaaGreat
open Go.RowKit
attribute [local go_sem high] run_maxM run_minM
theorem Bk.same {w w' : World} {g : Nat} {t : TypeId} {cs : Array Value} (h : Bk w g t cs) (e : w'.heap[g]? = w.heap[g]?) : Bk w' g t cs := e.trans h
theorem newIs_aff (l : List Int) (A : Option Addr) (n cp : Nat) (W H : Int) (w : World) (hl : l.length = n) (hr : Rd w w.heap.size A (l.map (Value.int .i64))) (hs : szH W H = true) :
    NewIs 1 A n cp W H w (afC l) (afX l) (afY l) afE := by
  intro w' hb
  refine (xnew_aff l A n cp W H w' hl ((hr.below hb).more hb.size) hs).mono ?_
  rintro e w'' ⟨p, rfl, h1, h2, hb2⟩
  refine ⟨p, rfl, h1, fun hz => ?_, hb2⟩
  obtain ⟨q, g, rfl, hq, hM, hg, hG⟩ := h2 hz
  intro w3 hs3 hk x y d
  have hok := afC_zero.1 hz
  exact xat_aff l q g 1 W H x y d w3 (hM.same (hk q hq hM.lt)) (hG.same (hk g hg hG.lt)) hok.1 hok.2
theorem sz99 : szH 9 9 = true := by decide +kernel
theorem al37_box : (coU (fun x y => afX unL x y (paD 0)) (paF 0 1) (paF 0 2) (paL 0 (4 - 1)) (paL 0 (5 - 1)) = 65536 ∧ coU (fun x y => afY unL x y (paD 0)) (paF 0 1) (paF 0 2) (paL 0 (4 - 1)) (paL 0 (5 - 1)) = 131072) ∧ (coV (fun x y => afX unL x y (paD 0)) (paF 0 1) (paF 0 2) (paL 0 (4 - 1)) (paL 0 (5 - 1)) = 196608 ∧ coV (fun x y => afY unL x y (paD 0)) (paF 0 1) (paF 0 2) (paL 0 (4 - 1)) (paL 0 (5 - 1)) = 262144) := by decide +kernel
theorem al37_e : ¬ rc_emptyR 1 2 4 5 := by decide
set_option maxRecDepth 100000 in
set_option maxHeartbeats 4000000 in
theorem alive37 (w : World) : Calls Tryz.prog 50 #[] w fun e w' => e = .returned (.bool true) ∧ Below w.heap.size w w' := by
  have hq := eql_box 65536 131072 196608 262144 65536 131072 196608 262144
  rw [show decide (((65536 : Int), (131072 : Int), (196608 : Int), (262144 : Int)) = (65536, 131072, 196608, 262144)) = true from rfl] at hq
  go_enter Tryz.func50, Tryz.ntmps50
  go_wp2_with fail
  refine (whole_yes 9 9 w sz99).mono ?_
  rintro e w1 ⟨b, rfl, hU, hb1⟩
  have hrd : Rd w1 w1.heap.size (some ⟨b, 0, none⟩) (unL.map (Value.int .i64)) := Bk.rdl (l := unL.map (Value.int .i64)) hU
  have hN := newIs_aff unL (some ⟨b, 0, none⟩) 6 6 9 9 w1 rfl hrd sz99
  rw [un_C5] at hN
  have hO := bof_corner 1 (some ⟨b, 0, none⟩) 6 6 9 9 1 2 4 5 0 (afX unL) (afY unL) afE w1 hN (by decide) (by decide) (by decide) al37_e (by decide) (by decide) (by decide) (by decide) (by decide)
  obtain ⟨⟨z1, z2⟩, z3, z4⟩ := al37_box
  rw [z1, z2, z3, z4] at hO
  clear hN hrd hU z1 z2 z3 z4
  go_wp2_with fail
  refine hO.mono ?_
  rintro e w2 ⟨rfl, hb2⟩
  have hb3 := (hb1.trans (hb2.mono hb1.size)).alloc (Nat.le_trans hb1.size hb2.size) (.cells (rc_rectA 65536 131072 196608 262144) 83)
  go_wp2_with fail
  go_returns
  exact ⟨rfl, hb3⟩
def bxHas (a b c d u v : Int) : Bool := decide (a ≤ u ∧ u ≤ c ∧ b ≤ v ∧ v ≤ d)
set_option maxRecDepth 100000 in
set_option maxHeartbeats 4000000 in
theorem bxhas_any (a b c d u v : Int) (w : World) : Calls Tryz.prog 53 #[rc_rect4 a b c d, .int .i64 u, .int .i64 v] w fun e w' => e = .returned (.bool (bxHas a b c d u v)) ∧ Below w.heap.size w w' := by
  have hb := (Below.refl w.heap.size w).alloc (Nat.le_refl _) (.cells (rc_rectA a b c d) 83)
  have hc : (u < a ∧ Hid (bxHas a b c d u v = false)) ∨ (a ≤ u ∧ c < u ∧ Hid (bxHas a b c d u v = false)) ∨ (a ≤ u ∧ u ≤ c ∧ v < b ∧ Hid (bxHas a b c d u v = false)) ∨ (a ≤ u ∧ u ≤ c ∧ b ≤ v ∧ Hid (bxHas a b c d u v = decide (v ≤ d))) := by
    unfold bxHas Hid
    by_cases h1 : a ≤ u <;> by_cases h2 : u ≤ c <;> by_cases h3 : b ≤ v <;> simp [h1, h2, h3] <;> omega
  rcases hc with ⟨h1, HE⟩ | ⟨h1, h2, HE⟩ | ⟨h1, h2, h3, HE⟩ | ⟨h1, h2, h3, HE⟩
  all_goals
    go_enter Tryz.func53, Tryz.ntmps53
    go_wp2_with fail
    go_returns
    exact ⟨by rw [HE.out]; rfl, hb⟩
set_option maxRecDepth 100000 in
set_option maxHeartbeats 4000000 in
theorem bxto_any (a b c d k : Int) (w : World) (ha : -70368744177664 ≤ a ∧ a ≤ 70368744177664) (hb : -70368744177664 ≤ b ∧ b ≤ 70368744177664) (hc : -70368744177664 ≤ c ∧ c ≤ 70368744177664) (hd : -70368744177664 ≤ d ∧ d ≤ 70368744177664) :
    Calls Tryz.prog 57 #[rc_rect4 a b c d, .int .i64 k] w fun e w' => e = .returned (rc_rect4 (lvTo a k) (lvTo b k) (lvTo c k) (lvTo d k)) ∧ Below w.heap.size w w' := by
  have hL := ((Lie.start w).alloc (rc_rectA a b c d) 83).alloc (rc_rectA 0 0 0 0) 83
  simp only [World.size_alloc] at hL
  have k2 := hL.k 1 (by simp)
  have k4 := hL.k 0 (by simp)
  simp only [List.getElem_cons_zero, List.getElem_cons_succ] at k2 k4
  have hA := fun w' => lv_to_any a k w' ha.1 ha.2
  have hB := fun w' => lv_to_any b k w' hb.1 hb.2
  have hC := fun w' => lv_to_any c k w' hc.1 hc.2
  have hD := fun w' => lv_to_any d k w' hd.1 hd.2
  clear ha hb hc hd
  generalize lvTo a k = A at *
  generalize lvTo b k = B at *
  generalize lvTo c k = C at *
  generalize lvTo d k = D at *
  go_enter Tryz.func57, Tryz.ntmps57
  go_wp2_with fail
  generalize hw1 : (w.alloc (.cells (rc_rectA a b c d) 83)).alloc (.cells (rc_rectA 0 0 0 0) 83) = w1 at *
  clear hw1
  obtain ⟨d0, d1, d2, d3⟩ := k2.cell4
  have r0 := fun (n : Nat) (os : Array Obj) => cell_regrown d0 n os
  have r1 := fun (n : Nat) (os : Array Obj) => cell_regrown d1 n os
  have r2 := fun (n : Nat) (os : Array Obj) => cell_regrown d2 n os
  have r3 := fun (n : Nat) (os : Array Obj) => cell_regrown d3 n os
  refine wp_region_quiet_tail 17 (by kernel_rfl) (by kernel_rfl) ?_
  simp only [List.take_succ_cons, List.take_zero, List.drop_succ_cons, List.drop_zero]
  repeat (first
    | go_big_quiet_step ((first | with_reducible exact quiet_eq (hA _) | with_reducible exact quiet_eq (hB _) | with_reducible exact quiet_eq (hC _) | with_reducible exact quiet_eq (hD _)))
    | quiet_step ((first | with_reducible exact quiet_eq (hA _) | with_reducible exact quiet_eq (hB _) | with_reducible exact quiet_eq (hC _) | with_reducible exact quiet_eq (hD _))))
  refine wpQuiet_nil ?_
  intro _ hw'
  obtain ⟨⟨dd, os⟩, hw''⟩ := hw'
  subst hw''
  have hbx := below_regrown w1 dd os
  generalize Go.Sort.grow (redrawn w1 dd) os = wx at *
  have hLx := hL.nx hbx
  have k4x := k4.nx hbx
  clear r0 r1 r2 r3 hA hB hC hD
  go_wp2_with (refine stB (ty := 83) (cells := rc_rectA A B C D) rfl _ _ rfl k4x rfl rfl bx_size rfl (by simp [Value.oneCell']) ?_; intro w2 k42 hg2 hs2)
  refine bodyPost_ret (res_cell rfl k42 rfl Tryz.underlying83 rfl bx_size) rfl ?_
  exact ⟨rfl, below_of_gb hLx.bel hg2 (by omega) hLx.sz⟩
end Go.Proofs.YtlbiiljncacdoaaGreat
end
