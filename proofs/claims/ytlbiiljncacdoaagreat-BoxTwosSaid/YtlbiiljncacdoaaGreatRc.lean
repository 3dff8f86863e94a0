/- Rectangles, of the program and of the reference. -/
import Derived.Test.YtlbiiljncacdoaaGreatRowG
import Derived.Test.YtlbiiljncacdoaaGreatLie
import Derived.Deep.QuietTactic
import Derived.BigQuiet
set_option linter.unusedVariables false
namespace Go.Proofs.YtlbiiljncacdoaaGreat
open Go.RowKit
abbrev rc_inR (x : Int) : Prop := -2147483648 ≤ x ∧ x ≤ 2147483648
abbrev rc_rightR (a b c d : Int) : Prop := rc_inR a ∧ rc_inR b ∧ rc_inR c ∧ rc_inR d
abbrev rc_emptyR (a b c d : Int) : Prop := ¬ rc_rightR a b c d ∨ c ≤ a ∨ d ≤ b
abbrev rc_rect4 (a b c d : Int) : Value := .agg #[.int .i64 a, .int .i64 b, .int .i64 c, .int .i64 d]
theorem rc_wsub {a b : Int} (ha : rc_inR a) (hb : rc_inR b) : wrap64 (a - b) = a - b := IntWalk.wrap64_in _ ⟨by omega, by omega⟩
theorem rc_bl_alloc {w w' : World} {o : Obj} (hb : Below (w.alloc o).heap.size (w.alloc o) w') : Below w.heap.size w w' :=
  ((Below.refl _ w).alloc (Nat.le_refl _) _).trans (hb.mono (by simp))
set_option maxHeartbeats 400000 in
theorem rc_rin_any (x : Int) (w : World) : Calls Tryz.prog 205 #[.int .i64 x] w fun e w' => e = .returned (.bool (decide (rc_inR x))) ∧ w = w' := by
  by_cases h1 : -2147483648 ≤ x
  all_goals
    go_enter Tryz.func205, Tryz.ntmps205
    go_wp2
    go_ret
    exact ⟨ret_bool (by simp [rc_inR]; try omega), rfl⟩
set_option maxHeartbeats 400000 in
theorem rc_rrin_any (x : Int) (w : World) : Calls Tryz.prog 214 #[.int .i64 x] w fun e w' => e = .returned (.bool (decide (rc_inR x))) ∧ w = w' := by
  by_cases h1 : -2147483648 ≤ x
  all_goals
    go_enter Tryz.func214, Tryz.ntmps214
    go_wp2
    go_ret
    exact ⟨ret_bool (by simp [rc_inR]; try omega), rfl⟩
set_option maxHeartbeats 1000000 in
theorem rc_right_any (a b c d : Int) (w : World) : Calls Tryz.prog 167 #[rc_rect4 a b c d] w fun e w' => e = .returned (.bool (decide (rc_rightR a b c d))) ∧ Below w.heap.size w w' := by
  go_enter Tryz.func167, Tryz.ntmps167
  go_wp2_with (go_at_call 205; (with_reducible refine (rc_rin_any _ _).mono ?_); rintro e w' ⟨rfl, rfl⟩)
  all_goals
    go_returns
    refine ⟨ret_bool ?_, by go_grown⟩
    simp_all [rc_rightR, rc_inR]
    try omega
set_option maxHeartbeats 1000000 in
theorem rc_rright_any (a b c d : Int) (w : World) : Calls Tryz.prog 174 #[rc_rect4 a b c d] w fun e w' => e = .returned (.bool (decide (rc_rightR a b c d))) ∧ Below w.heap.size w w' := by
  go_enter Tryz.func174, Tryz.ntmps174
  go_wp2_with (go_at_call 214; (with_reducible refine (rc_rrin_any _ _).mono ?_); rintro e w' ⟨rfl, rfl⟩)
  all_goals
    go_returns
    refine ⟨ret_bool ?_, by go_grown⟩
    simp_all [rc_rightR, rc_inR]
    try omega
set_option maxHeartbeats 1000000 in
theorem rc_empty_any (a b c d : Int) (w : World) : Calls Tryz.prog 109 #[rc_rect4 a b c d] w fun e w' => e = .returned (.bool (decide (rc_emptyR a b c d))) ∧ Below w.heap.size w w' := by
  by_cases hr : rc_rightR a b c d
  · have hd : decide (rc_rightR a b c d) = true := decide_eq_true hr
    have HR := Lib.hid hr
    clear hr
    go_enter Tryz.func109, Tryz.ntmps109
    go_wp2_with (go_at_call 167; (with_reducible refine (rc_right_any _ _ _ _ _).mono ?_); rintro e w' ⟨rfl, hb⟩; have hcb := bcell hb; have hb1 := rc_bl_alloc hb)
    all_goals
      go_returns
      refine ⟨ret_bool ?_, hb1⟩
      have := HR.out
      simp_all [rc_emptyR]
      try omega
  · have hd : decide (rc_rightR a b c d) = false := decide_eq_false hr
    have HR := Lib.hid hr
    clear hr
    go_enter Tryz.func109, Tryz.ntmps109
    go_wp2_with (go_at_call 167; (with_reducible refine (rc_right_any _ _ _ _ _).mono ?_); rintro e w' ⟨rfl, hb⟩; have hcb := bcell hb; have hb1 := rc_bl_alloc hb)
    all_goals
      go_returns
      exact ⟨ret_bool (by rw [decide_eq_true (.inl HR.out : rc_emptyR a b c d)]), hb1⟩
theorem rc_rect_size : (Tryz.prog.info? 78).map (·.size) = some 4 := by kernel_rfl
abbrev rc_rectA (a b c d : Int) : Array Value := #[.int .i64 a, .int .i64 b, .int .i64 c, .int .i64 d]
theorem rc_stRect {ops : Array Oper} {rest : List Oper} {o : Oper} {a : Act} {w : World} {Q : Exit → Act → World → Prop} (hgd : o.guard = none) (x y : Operand) (ho : o.op = .store 78 x y)
    {g : Nat} {old : Array Value} (hK : Bk w g 78 old) (hold : old.size = 4) {p q r s : Int} (hx : a.eval x = .pointer (some ⟨g, 0, none⟩)) (hy : a.eval y = rc_rect4 p q r s)
    (h : ∀ w', Bk w' g 78 (rc_rectA p q r s) → w.grownBy w' (some g) → w'.heap.size = w.heap.size → wpList Tryz.prog ops Q rest (a.put o.dst undef) w') : wpList Tryz.prog ops Q (o :: rest) a w :=
  stB hgd _ x y ho hK _ hx hy rc_rect_size (by simpa using hold) (by simp [Value.oneCell']) h
theorem rc_ldRect {ops : Array Oper} {rest : List Oper} {o : Oper} {a : Act} {w : World} {Q : Exit → Act → World → Prop} (hgd : o.guard = none) (x : Operand) (ho : o.op = .load 78 x)
    {g : Nat} {p q r s : Int} (hK : Bk w g 78 (rc_rectA p q r s)) (hx : a.eval x = .pointer (some ⟨g, 0, none⟩))
    (h : wpList Tryz.prog ops Q rest (a.put o.dst (rc_rect4 p q r s)) w) : wpList Tryz.prog ops Q (o :: rest) a w :=
  ldB hgd _ x ho hK hx Tryz.underlying78 rfl rc_rect_size h
theorem rc_res_rect {fn : Func} {p : Tmp} (h : fn.results = #[.cell p 78]) {tmps : Array Value} {w : World} {g : Nat} {a b c d : Int} (hK : Bk w g 78 (rc_rectA a b c d))
    (hp : tmps.getD p undef = .pointer (some ⟨g, 0, none⟩)) : (results fn tmps).run Tryz.prog w = .ok (rc_rect4 a b c d) w :=
  res_cell h hK hp Tryz.underlying78 rfl rc_rect_size
theorem rc_below_set4 {w w' : World} {g B : Nat} (hb : Below B w w') (hg : B ≤ g) (x y z u : Value) : Below B w ((((w'.setCell ⟨g, 0, none⟩ x).setCell ⟨g, 1, none⟩ y).setCell ⟨g, 2, none⟩ z).setCell ⟨g, 3, none⟩ u) :=
  (((hb.setCell (p := ⟨g, 0, none⟩) hg x).setCell (p := ⟨g, 1, none⟩) hg y).setCell (p := ⟨g, 2, none⟩) hg z).setCell (p := ⟨g, 3, none⟩) hg u
set_option maxHeartbeats 1000000 in
theorem rc_norm_e (a b c d : Int) (w : World) (he : rc_emptyR a b c d) : Calls Tryz.prog 206 #[rc_rect4 a b c d] w fun e w' => e = .returned (rc_rect4 0 0 0 0) ∧ Below w.heap.size w w' := by
  have hd : decide (rc_emptyR a b c d) = true := decide_eq_true he
  clear he
  go_enter Tryz.func206, Tryz.ntmps206
  go_wp2_with (go_at_call 109; (with_reducible refine (rc_empty_any _ _ _ _ _).mono ?_); rintro e w' ⟨rfl, hb⟩; have hcb := bcell hb; have hb1 := rc_bl_alloc (rc_bl_alloc hb); have hK2 := (Bk.new (w.alloc (.cells (rc_rectA a b c d) 78)) 78 (rc_rectA 0 0 0 0)).nx hb)
  simp only [World.size_alloc] at hK2
  refine bodyPost_ret (rc_res_rect rfl (hK2.set4 _ _ _ _) rfl) rfl ?_
  exact ⟨rfl, rc_below_set4 hb1 (by omega) _ _ _ _⟩
set_option maxHeartbeats 1000000 in
theorem rc_norm_ok (a b c d : Int) (w : World) (he : ¬ rc_emptyR a b c d) : Calls Tryz.prog 206 #[rc_rect4 a b c d] w fun e w' => e = .returned (rc_rect4 a b c d) ∧ Below w.heap.size w w' := by
  have hd : decide (rc_emptyR a b c d) = false := decide_eq_false he
  clear he
  go_enter Tryz.func206, Tryz.ntmps206
  go_wp2_with (go_at_call 109; (with_reducible refine (rc_empty_any _ _ _ _ _).mono ?_); rintro e w' ⟨rfl, hb⟩; have hcb := bcell hb; have hb1 := rc_bl_alloc (rc_bl_alloc hb); have hK2 := (Bk.new (w.alloc (.cells (rc_rectA a b c d) 78)) 78 (rc_rectA 0 0 0 0)).nx hb)
  simp only [World.size_alloc] at hK2
  refine bodyPost_ret (rc_res_rect rfl (hK2.set4 _ _ _ _) rfl) rfl ?_
  exact ⟨rfl, rc_below_set4 hb1 (by omega) _ _ _ _⟩
/-- The norm, whatever the rectangle. -/
abbrev rc_nrm (a b c d : Int) (x : Int) : Int := if rc_emptyR a b c d then 0 else x
set_option maxHeartbeats 1000000 in
theorem rc_rnorm_e (a b c d : Int) (w : World) (he : rc_emptyR a b c d) : Calls Tryz.prog 115 #[rc_rect4 a b c d] w fun e w' => e = .returned (rc_rect4 0 0 0 0) ∧ Below w.heap.size w w' := by
  by_cases hr : rc_rightR a b c d
  all_goals
    first
      | (have hd : decide (rc_rightR a b c d) = true := decide_eq_true hr)
      | (have hd : decide (rc_rightR a b c d) = false := decide_eq_false hr)
    have HR := Lib.hid hr
    have HE := Lib.hid he
    clear he hr
    go_enter Tryz.func115, Tryz.ntmps115
    go_wp2_with (go_at_call 174; (with_reducible refine (rc_rright_any _ _ _ _ _).mono ?_); rintro e w' ⟨rfl, hb⟩; have hcb := bcell hb; have hb1 := rc_bl_alloc (rc_bl_alloc hb); have hK2 := (Bk.new (w.alloc (.cells (rc_rectA a b c d) 78)) 78 (rc_rectA 0 0 0 0)).nx hb)
    all_goals
      simp only [World.size_alloc] at hK2
      refine bodyPost_ret (rc_res_rect rfl (hK2.set4 _ _ _ _) rfl) rfl ?_
      first
        | exact ⟨rfl, rc_below_set4 hb1 (by omega) _ _ _ _⟩
        | (exfalso; have := HE.out; have := HR.out; clear hcb; simp_all [rc_emptyR] <;> omega)
set_option maxHeartbeats 1000000 in
theorem rc_rnorm_ok (a b c d : Int) (w : World) (he : ¬ rc_emptyR a b c d) : Calls Tryz.prog 115 #[rc_rect4 a b c d] w fun e w' => e = .returned (rc_rect4 a b c d) ∧ Below w.heap.size w w' := by
  have hr : rc_rightR a b c d := by
    by_cases h : rc_rightR a b c d
    · exact h
    · exact absurd (.inl h) he
  have hd : decide (rc_rightR a b c d) = true := decide_eq_true hr
  have h1 : ¬ c ≤ a := fun h => he (.inr (.inl h))
  have h2 : ¬ d ≤ b := fun h => he (.inr (.inr h))
  clear he hr
  go_enter Tryz.func115, Tryz.ntmps115
  go_wp2_with (go_at_call 174; (with_reducible refine (rc_rright_any _ _ _ _ _).mono ?_); rintro e w' ⟨rfl, hb⟩; have hcb := bcell hb; have hb1 := rc_bl_alloc (rc_bl_alloc hb); have hK2 := (Bk.new (w.alloc (.cells (rc_rectA a b c d) 78)) 78 (rc_rectA 0 0 0 0)).nx hb)
  simp only [World.size_alloc] at hK2
  refine bodyPost_ret (rc_res_rect rfl (hK2.set4 _ _ _ _) rfl) rfl ?_
  exact ⟨rfl, rc_below_set4 hb1 (by omega) _ _ _ _⟩
def rc_areaR (a b c d : Int) : Int := if rc_emptyR a b c d then 0 else if 9223372036854775807 / (d - b) < c - a then 9223372036854775807 else (c - a) * (d - b)
theorem rc_areaR_mul {a b c d : Int} (he : ¬ rc_emptyR a b c d) : ∃ W H : Int, c - a = W ∧ d - b = H ∧ 1 ≤ W ∧ 1 ≤ H ∧ W ≤ 4294967296 ∧ H ≤ 4294967296 ∧ wrap64 (c - a) = W ∧ wrap64 (d - b) = H ∧ Int.tdiv 9223372036854775807 H = 9223372036854775807 / H ∧ 0 ≤ 9223372036854775807 / H ∧ 9223372036854775807 / H ≤ 9223372036854775807 ∧ (¬ 9223372036854775807 / H < W → wrap64 (W * H) = W * H) := by
  have hr : rc_rightR a b c d := by
    by_cases h : rc_rightR a b c d
    · exact h
    · exact absurd (.inl h) he
  have h1 : ¬ c ≤ a := fun h => he (.inr (.inl h))
  have h2 : ¬ d ≤ b := fun h => he (.inr (.inr h))
  obtain ⟨ha, hb, hc, hd⟩ := hr
  refine ⟨_, _, rfl, rfl, by omega, by omega, by omega, by omega, rc_wsub hc ha, rc_wsub hd hb, ?_, ?_, ?_, fun h => ?_⟩
  · rw [Int.tdiv_eq_ediv_of_nonneg (by omega)]
  · exact Int.ediv_nonneg (by omega) (by omega)
  · exact Int.ediv_le_self _ (by omega)
  · have h3 : (c - a) * (d - b) ≤ 9223372036854775807 := (Int.le_ediv_iff_mul_le (by omega)).1 (by omega)
    have h4 : 0 ≤ (c - a) * (d - b) := Int.mul_nonneg (by omega) (by omega)
    exact IntWalk.wrap64_in _ ⟨by omega, by omega⟩
set_option maxHeartbeats 1000000 in
theorem rc_rarea_any (a b c d : Int) (w : World) : Calls Tryz.prog 108 #[rc_rect4 a b c d] w fun e w' => e = .returned (.int .i64 (rc_areaR a b c d)) ∧ Below w.heap.size w w' := by
  by_cases he : rc_emptyR a b c d
  · have HE := Lib.hid (show rc_areaR a b c d = 0 by unfold rc_areaR; rw [if_pos he])
    go_enter Tryz.func108, Tryz.ntmps108
    go_wp2_with (go_at_call 115; (with_reducible refine (rc_rnorm_e _ _ _ _ _ he).mono ?_); rintro e w' ⟨rfl, hb⟩; clear he; have hcb := bcell hb; have hb1 := rc_bl_alloc hb; have hz1 := hb1.size)
    go_returns
    exact ⟨by rw [HE.out]; rfl, by go_grown⟩
  · obtain ⟨W, H, e1, e2, h1, h2, h3, h4, w1, w2, h5, h6, h7, h8⟩ := rc_areaR_mul he
    have HE := Lib.hid (show rc_areaR a b c d = if 9223372036854775807 / H < W then 9223372036854775807 else W * H by unfold rc_areaR; rw [if_neg he, e1, e2])
    clear e1 e2
    have HN := Lib.hid he
    clear he
    by_cases hq : 9223372036854775807 / H < W
    all_goals
      try (have h9 := h8 hq)
      clear h8
      generalize hQ : 9223372036854775807 / H = Q at *
      clear hQ
      have HQ := Lib.hid hq
      go_enter Tryz.func108, Tryz.ntmps108
      go_wp2_with (go_at_call 115; (with_reducible refine (rc_rnorm_ok _ _ _ _ _ (by exact HN.out)).mono ?_); rintro e w' ⟨rfl, hb⟩; have hcb := bcell hb; have hb1 := rc_bl_alloc hb; have hz1 := hb1.size)
      go_returns
      exact ⟨ret_int (by rw [HE.out]; first | (rw [if_pos (by have := HQ.out; omega)]; done) | (rw [if_neg (by have := HQ.out; omega)]; exact h9) | (rw [if_neg (by have := HQ.out; omega)]; done)), by go_grown⟩
theorem rc_area_zero (a b c d : Int) : rc_areaR a b c d = 0 ↔ rc_emptyR a b c d := by
  constructor
  · intro h
    by_cases he : rc_emptyR a b c d
    · exact he
    · obtain ⟨W, H, e1, e2, h1, h2, _⟩ := rc_areaR_mul he
      have h3 : 0 < W * H := Int.mul_pos (by omega) (by omega)
      unfold rc_areaR at h
      rw [if_neg he, e1, e2] at h
      split at h <;> omega
  · intro he
    unfold rc_areaR; rw [if_pos he]
def rc_hasB (a b c d x y : Int) : Bool := decide (¬ rc_emptyR a b c d ∧ a ≤ x ∧ x < c ∧ b ≤ y ∧ y < d)
theorem rc_hasB_e {a b c d x y : Int} (h : rc_emptyR a b c d) : rc_hasB a b c d x y = false := decide_eq_false (fun k => k.1 h)
theorem rc_hasB_yes {a b c d x y : Int} (h : ¬ rc_emptyR a b c d) (h1 : a ≤ x) (h2 : x < c) (h3 : b ≤ y) (h4 : y < d) : rc_hasB a b c d x y = true := decide_eq_true ⟨h, h1, h2, h3, h4⟩
theorem rc_hasB_no {a b c d x y : Int} (h : ¬ (a ≤ x ∧ x < c ∧ b ≤ y ∧ y < d)) : rc_hasB a b c d x y = false := decide_eq_false (fun k => h k.2)
theorem rc_hasB_iff {a b c d x y : Int} : rc_hasB a b c d x y = true ↔ (¬ rc_emptyR a b c d ∧ a ≤ x ∧ x < c ∧ b ≤ y ∧ y < d) := by unfold rc_hasB; exact decide_eq_true_iff
end Go.Proofs.YtlbiiljncacdoaaGreat
