/- Several texts in one: Rectangles, of the program and of the reference. Rectangles: the places that two have. -/
import Derived.Test.YtahiaeaobbofbaaGreatRowG
import Derived.Test.YtahiaeaobbofbaaGreatLie
import Derived.Deep.QuietTactic
import Derived.BigQuiet
import Derived.Test.YtahiaeaobbofbaaGreatNP
section
set_option linter.unusedVariables false
namespace Go.Proofs.YtahiaeaobbofbaaGreat
open Go.RowKit
abbrev rc_inR (x : Int) : Prop := -2147483648 ≤ x ∧ x ≤ 2147483648
abbrev rc_rightR (a b c d : Int) : Prop := rc_inR a ∧ rc_inR b ∧ rc_inR c ∧ rc_inR d
abbrev rc_emptyR (a b c d : Int) : Prop := ¬ rc_rightR a b c d ∨ c ≤ a ∨ d ≤ b
abbrev rc_rect4 (a b c d : Int) : Value := .agg #[.int .i64 a, .int .i64 b, .int .i64 c, .int .i64 d]
theorem rc_wsub {a b : Int} (ha : rc_inR a) (hb : rc_inR b) : wrap64 (a - b) = a - b := IntWalk.wrap64_in _ ⟨by omega, by omega⟩
theorem rc_bl_alloc {w w' : World} {o : Obj} (hb : Below (w.alloc o).heap.size (w.alloc o) w') : Below w.heap.size w w' :=
  ((Below.refl _ w).alloc (Nat.le_refl _) _).trans (hb.mono (by simp))
set_option maxHeartbeats 400000 in
theorem rc_rin_any (x : Int) (w : World) : Calls Tryz.prog 100 #[.int .i64 x] w fun e w' => e = .returned (.bool (decide (rc_inR x))) ∧ w = w' := by
  by_cases h1 : -2147483648 ≤ x
  all_goals
    go_enter Tryz.func100, Tryz.ntmps100
    go_wp2
    go_ret
    exact ⟨ret_bool (by simp [rc_inR]; try omega), rfl⟩
set_option maxHeartbeats 400000 in
theorem rc_rrin_any (x : Int) (w : World) : Calls Tryz.prog 99 #[.int .i64 x] w fun e w' => e = .returned (.bool (decide (rc_inR x))) ∧ w = w' := by
  by_cases h1 : -2147483648 ≤ x
  all_goals
    go_enter Tryz.func99, Tryz.ntmps99
    go_wp2
    go_ret
    exact ⟨ret_bool (by simp [rc_inR]; try omega), rfl⟩
set_option maxHeartbeats 1000000 in
theorem rc_right_any (a b c d : Int) (w : World) : Calls Tryz.prog 94 #[rc_rect4 a b c d] w fun e w' => e = .returned (.bool (decide (rc_rightR a b c d))) ∧ Below w.heap.size w w' := by
  go_enter Tryz.func94, Tryz.ntmps94
  go_wp2_with (go_at_call 100; (with_reducible refine (rc_rin_any _ _).mono ?_); rintro e w' ⟨rfl, rfl⟩)
  all_goals
    go_returns
    refine ⟨ret_bool ?_, by go_grown⟩
    simp_all [rc_rightR, rc_inR]
    try omega
set_option maxHeartbeats 1000000 in
theorem rc_rright_any (a b c d : Int) (w : World) : Calls Tryz.prog 93 #[rc_rect4 a b c d] w fun e w' => e = .returned (.bool (decide (rc_rightR a b c d))) ∧ Below w.heap.size w w' := by
  go_enter Tryz.func93, Tryz.ntmps93
  go_wp2_with (go_at_call 99; (with_reducible refine (rc_rrin_any _ _).mono ?_); rintro e w' ⟨rfl, rfl⟩)
  all_goals
    go_returns
    refine ⟨ret_bool ?_, by go_grown⟩
    simp_all [rc_rightR, rc_inR]
    try omega
set_option maxHeartbeats 1000000 in
theorem rc_empty_any (a b c d : Int) (w : World) : Calls Tryz.prog 81 #[rc_rect4 a b c d] w fun e w' => e = .returned (.bool (decide (rc_emptyR a b c d))) ∧ Below w.heap.size w w' := by
  by_cases hr : rc_rightR a b c d
  · have hd : decide (rc_rightR a b c d) = true := decide_eq_true hr
    have HR := Lib.hid hr
    clear hr
    go_enter Tryz.func81, Tryz.ntmps81
    go_wp2_with (go_at_call 94; (with_reducible refine (rc_right_any _ _ _ _ _).mono ?_); rintro e w' ⟨rfl, hb⟩; have hcb := bcell hb; have hb1 := rc_bl_alloc hb)
    all_goals
      go_returns
      refine ⟨ret_bool ?_, hb1⟩
      have := HR.out
      simp_all [rc_emptyR]
      try omega
  · have hd : decide (rc_rightR a b c d) = false := decide_eq_false hr
    have HR := Lib.hid hr
    clear hr
    go_enter Tryz.func81, Tryz.ntmps81
    go_wp2_with (go_at_call 94; (with_reducible refine (rc_right_any _ _ _ _ _).mono ?_); rintro e w' ⟨rfl, hb⟩; have hcb := bcell hb; have hb1 := rc_bl_alloc hb)
    all_goals
      go_returns
      exact ⟨ret_bool (by rw [decide_eq_true (.inl HR.out : rc_emptyR a b c d)]), hb1⟩
theorem rc_rect_size : (Tryz.prog.info? 59).map (·.size) = some 4 := by kernel_rfl
abbrev rc_rectA (a b c d : Int) : Array Value := #[.int .i64 a, .int .i64 b, .int .i64 c, .int .i64 d]
theorem rc_stRect {ops : Array Oper} {rest : List Oper} {o : Oper} {a : Act} {w : World} {Q : Exit → Act → World → Prop} (hgd : o.guard = none) (x y : Operand) (ho : o.op = .store 59 x y)
    {g : Nat} {old : Array Value} (hK : Bk w g 59 old) (hold : old.size = 4) {p q r s : Int} (hx : a.eval x = .pointer (some ⟨g, 0, none⟩)) (hy : a.eval y = rc_rect4 p q r s)
    (h : ∀ w', Bk w' g 59 (rc_rectA p q r s) → w.grownBy w' (some g) → w'.heap.size = w.heap.size → wpList Tryz.prog ops Q rest (a.put o.dst undef) w') : wpList Tryz.prog ops Q (o :: rest) a w :=
  stB hgd _ x y ho hK _ hx hy rc_rect_size (by simpa using hold) (by simp [Value.oneCell']) h
theorem rc_ldRect {ops : Array Oper} {rest : List Oper} {o : Oper} {a : Act} {w : World} {Q : Exit → Act → World → Prop} (hgd : o.guard = none) (x : Operand) (ho : o.op = .load 59 x)
    {g : Nat} {p q r s : Int} (hK : Bk w g 59 (rc_rectA p q r s)) (hx : a.eval x = .pointer (some ⟨g, 0, none⟩))
    (h : wpList Tryz.prog ops Q rest (a.put o.dst (rc_rect4 p q r s)) w) : wpList Tryz.prog ops Q (o :: rest) a w :=
  ldB hgd _ x ho hK hx Tryz.underlying59 rfl rc_rect_size h
theorem rc_res_rect {fn : Func} {p : Tmp} (h : fn.results = #[.cell p 59]) {tmps : Array Value} {w : World} {g : Nat} {a b c d : Int} (hK : Bk w g 59 (rc_rectA a b c d))
    (hp : tmps.getD p undef = .pointer (some ⟨g, 0, none⟩)) : (results fn tmps).run Tryz.prog w = .ok (rc_rect4 a b c d) w :=
  res_cell h hK hp Tryz.underlying59 rfl rc_rect_size
theorem rc_below_set4 {w w' : World} {g B : Nat} (hb : Below B w w') (hg : B ≤ g) (x y z u : Value) : Below B w ((((w'.setCell ⟨g, 0, none⟩ x).setCell ⟨g, 1, none⟩ y).setCell ⟨g, 2, none⟩ z).setCell ⟨g, 3, none⟩ u) :=
  (((hb.setCell (p := ⟨g, 0, none⟩) hg x).setCell (p := ⟨g, 1, none⟩) hg y).setCell (p := ⟨g, 2, none⟩) hg z).setCell (p := ⟨g, 3, none⟩) hg u
set_option maxHeartbeats 1000000 in
theorem rc_norm_e (a b c d : Int) (w : World) (he : rc_emptyR a b c d) : Calls Tryz.prog 92 #[rc_rect4 a b c d] w fun e w' => e = .returned (rc_rect4 0 0 0 0) ∧ Below w.heap.size w w' := by
  have hd : decide (rc_emptyR a b c d) = true := decide_eq_true he
  clear he
  go_enter Tryz.func92, Tryz.ntmps92
  go_wp2_with (go_at_call 81; (with_reducible refine (rc_empty_any _ _ _ _ _).mono ?_); rintro e w' ⟨rfl, hb⟩; have hcb := bcell hb; have hb1 := rc_bl_alloc (rc_bl_alloc hb); have hK2 := (Bk.new (w.alloc (.cells (rc_rectA a b c d) 59)) 59 (rc_rectA 0 0 0 0)).nx hb)
  simp only [World.size_alloc] at hK2
  refine bodyPost_ret (rc_res_rect rfl (hK2.set4 _ _ _ _) rfl) rfl ?_
  exact ⟨rfl, rc_below_set4 hb1 (by omega) _ _ _ _⟩
set_option maxHeartbeats 1000000 in
theorem rc_norm_ok (a b c d : Int) (w : World) (he : ¬ rc_emptyR a b c d) : Calls Tryz.prog 92 #[rc_rect4 a b c d] w fun e w' => e = .returned (rc_rect4 a b c d) ∧ Below w.heap.size w w' := by
  have hd : decide (rc_emptyR a b c d) = false := decide_eq_false he
  clear he
  go_enter Tryz.func92, Tryz.ntmps92
  go_wp2_with (go_at_call 81; (with_reducible refine (rc_empty_any _ _ _ _ _).mono ?_); rintro e w' ⟨rfl, hb⟩; have hcb := bcell hb; have hb1 := rc_bl_alloc (rc_bl_alloc hb); have hK2 := (Bk.new (w.alloc (.cells (rc_rectA a b c d) 59)) 59 (rc_rectA 0 0 0 0)).nx hb)
  simp only [World.size_alloc] at hK2
  refine bodyPost_ret (rc_res_rect rfl (hK2.set4 _ _ _ _) rfl) rfl ?_
  exact ⟨rfl, rc_below_set4 hb1 (by omega) _ _ _ _⟩
/-- The norm, whatever the rectangle. -/
abbrev rc_nrm (a b c d : Int) (x : Int) : Int := if rc_emptyR a b c d then 0 else x
set_option maxHeartbeats 1000000 in
theorem rc_rnorm_e (a b c d : Int) (w : World) (he : rc_emptyR a b c d) : Calls Tryz.prog 79 #[rc_rect4 a b c d] w fun e w' => e = .returned (rc_rect4 0 0 0 0) ∧ Below w.heap.size w w' := by
  by_cases hr : rc_rightR a b c d
  all_goals
    first
      | (have hd : decide (rc_rightR a b c d) = true := decide_eq_true hr)
      | (have hd : decide (rc_rightR a b c d) = false := decide_eq_false hr)
    have HR := Lib.hid hr
    have HE := Lib.hid he
    clear he hr
    go_enter Tryz.func79, Tryz.ntmps79
    go_wp2_with (go_at_call 93; (with_reducible refine (rc_rright_any _ _ _ _ _).mono ?_); rintro e w' ⟨rfl, hb⟩; have hcb := bcell hb; have hb1 := rc_bl_alloc (rc_bl_alloc hb); have hK2 := (Bk.new (w.alloc (.cells (rc_rectA a b c d) 59)) 59 (rc_rectA 0 0 0 0)).nx hb)
    all_goals
      simp only [World.size_alloc] at hK2
      refine bodyPost_ret (rc_res_rect rfl (hK2.set4 _ _ _ _) rfl) rfl ?_
      first
        | exact ⟨rfl, rc_below_set4 hb1 (by omega) _ _ _ _⟩
        | (exfalso; have := HE.out; have := HR.out; clear hcb; simp_all [rc_emptyR] <;> omega)
set_option maxHeartbeats 1000000 in
theorem rc_rnorm_ok (a b c d : Int) (w : World) (he : ¬ rc_emptyR a b c d) : Calls Tryz.prog 79 #[rc_rect4 a b c d] w fun e w' => e = .returned (rc_rect4 a b c d) ∧ Below w.heap.size w w' := by
  have hr : rc_rightR a b c d := by
    by_cases h : rc_rightR a b c d
    · exact h
    · exact absurd (.inl h) he
  have hd : decide (rc_rightR a b c d) = true := decide_eq_true hr
  have h1 : ¬ c ≤ a := fun h => he (.inr (.inl h))
  have h2 : ¬ d ≤ b := fun h => he (.inr (.inr h))
  clear he hr
  go_enter Tryz.func79, Tryz.ntmps79
  go_wp2_with (go_at_call 93; (with_reducible refine (rc_rright_any _ _ _ _ _).mono ?_); rintro e w' ⟨rfl, hb⟩; have hcb := bcell hb; have hb1 := rc_bl_alloc (rc_bl_alloc hb); have hK2 := (Bk.new (w.alloc (.cells (rc_rectA a b c d) 59)) 59 (rc_rectA 0 0 0 0)).nx hb)
  simp only [World.size_alloc] at hK2
  refine bodyPost_ret (rc_res_rect rfl (hK2.set4 _ _ _ _) rfl) rfl ?_
  exact ⟨rfl, rc_below_set4 hb1 (by omega) _ _ _ _⟩
def rc_areaR (a b c d : Int) : Int := if rc_emptyR a b c d then 0 else if 9223372036854775807 / (d - b) < c - a then 9223372036854775807 else (c - a) * (d - b)
theorem rc_areaR_mul {a b c d : Int} (he : ¬ rc_emptyR a b c d) : ∃ W H : Int, c - a = W ∧ d - b = H ∧ 1 ≤ W ∧ 1 ≤ H ∧ W ≤ 4294967296 ∧ H ≤ 4294967296 ∧ wrap64 (c - a) = W ∧ wrap64 (d - b) = H ∧ Int.tdiv 9223372036854775807 H = 9223372036854775807 / H ∧ 0 ≤ 9223372036854775807 / H ∧ 9223372036854775807 / H ≤ 9223372036854775807 ∧ (¬ 9223372036854775807 / H < W → wrap64 (W * H) = W * H) := by
  have hr : rc_rightR a b c d := by
    by_cases h : rc_rightR a b c d
    · exact h
    · exact absurd (.inl h) he
  have h1 : ¬ c ≤ a := fun h => he (.inr (.inl h))
  have h2 : ¬ d ≤ b := fun h => he (.inr (.inr h))
  obtain ⟨ha, hb, hc, hd⟩ := hr
  refine ⟨_, _, rfl, rfl, by omega, by omega, by omega, by omega, rc_wsub hc ha, rc_wsub hd hb, ?_, ?_, ?_, fun h => ?_⟩
  · rw [Int.tdiv_eq_ediv_of_nonneg (by omega)]
  · exact Int.ediv_nonneg (by omega) (by omega)
  · exact Int.ediv_le_self _ (by omega)
  · have h3 : (c - a) * (d - b) ≤ 9223372036854775807 := (Int.le_ediv_iff_mul_le (by omega)).1 (by omega)
    have h4 : 0 ≤ (c - a) * (d - b) := Int.mul_nonneg (by omega) (by omega)
    exact IntWalk.wrap64_in _ ⟨by omega, by omega⟩
set_option maxHeartbeats 1000000 in
theorem rc_rarea_any (a b c d : Int) (w : World) : Calls Tryz.prog 59 #[rc_rect4 a b c d] w fun e w' => e = .returned (.int .i64 (rc_areaR a b c d)) ∧ Below w.heap.size w w' := by
  by_cases he : rc_emptyR a b c d
  · have HE := Lib.hid (show rc_areaR a b c d = 0 by unfold rc_areaR; rw [if_pos he])
    go_enter Tryz.func59, Tryz.ntmps59
    go_wp2_with (go_at_call 79; (with_reducible refine (rc_rnorm_e _ _ _ _ _ he).mono ?_); rintro e w' ⟨rfl, hb⟩; clear he; have hcb := bcell hb; have hb1 := rc_bl_alloc hb; have hz1 := hb1.size)
    go_returns
    exact ⟨by rw [HE.out]; rfl, by go_grown⟩
  · obtain ⟨W, H, e1, e2, h1, h2, h3, h4, w1, w2, h5, h6, h7, h8⟩ := rc_areaR_mul he
    have HE := Lib.hid (show rc_areaR a b c d = if 9223372036854775807 / H < W then 9223372036854775807 else W * H by unfold rc_areaR; rw [if_neg he, e1, e2])
    clear e1 e2
    have HN := Lib.hid he
    clear he
    by_cases hq : 9223372036854775807 / H < W
    all_goals
      try (have h9 := h8 hq)
      clear h8
      generalize hQ : 9223372036854775807 / H = Q at *
      clear hQ
      have HQ := Lib.hid hq
      go_enter Tryz.func59, Tryz.ntmps59
      go_wp2_with (go_at_call 79; (with_reducible refine (rc_rnorm_ok _ _ _ _ _ (by exact HN.out)).mono ?_); rintro e w' ⟨rfl, hb⟩; have hcb := bcell hb; have hb1 := rc_bl_alloc hb; have hz1 := hb1.size)
      go_returns
      exact ⟨ret_int (by rw [HE.out]; first | (rw [if_pos (by have := HQ.out; omega)]; done) | (rw [if_neg (by have := HQ.out; omega)]; exact h9) | (rw [if_neg (by have := HQ.out; omega)]; done)), by go_grown⟩
theorem rc_area_zero (a b c d : Int) : rc_areaR a b c d = 0 ↔ rc_emptyR a b c d := by
  constructor
  · intro h
    by_cases he : rc_emptyR a b c d
    · exact he
    · obtain ⟨W, H, e1, e2, h1, h2, _⟩ := rc_areaR_mul he
      have h3 : 0 < W * H := Int.mul_pos (by omega) (by omega)
      unfold rc_areaR at h
      rw [if_neg he, e1, e2] at h
      split at h <;> omega
  · intro he
    unfold rc_areaR; rw [if_pos he]
def rc_hasB (a b c d x y : Int) : Bool := decide (¬ rc_emptyR a b c d ∧ a ≤ x ∧ x < c ∧ b ≤ y ∧ y < d)
theorem rc_hasB_e {a b c d x y : Int} (h : rc_emptyR a b c d) : rc_hasB a b c d x y = false := decide_eq_false (fun k => k.1 h)
theorem rc_hasB_yes {a b c d x y : Int} (h : ¬ rc_emptyR a b c d) (h1 : a ≤ x) (h2 : x < c) (h3 : b ≤ y) (h4 : y < d) : rc_hasB a b c d x y = true := decide_eq_true ⟨h, h1, h2, h3, h4⟩
theorem rc_hasB_no {a b c d x y : Int} (h : ¬ (a ≤ x ∧ x < c ∧ b ≤ y ∧ y < d)) : rc_hasB a b c d x y = false := decide_eq_false (fun k => h k.2)
theorem rc_hasB_iff {a b c d x y : Int} : rc_hasB a b c d x y = true ↔ (¬ rc_emptyR a b c d ∧ a ≤ x ∧ x < c ∧ b ≤ y ∧ y < d) := by unfold rc_hasB; exact decide_eq_true_iff
end Go.Proofs.YtahiaeaobbofbaaGreat
end
section
set_option linter.unusedVariables false
namespace Go.Proofs.YtahiaeaobbofbaaGreat
open Go.RowKit
attribute [local go_sem high] run_maxM run_minM
/-- The places that a rectangle and a whole image have. -/
def bothR (a b c d e f g h : Int) : Int × Int × Int × Int :=
  if rc_emptyR a b c d ∨ rc_emptyR e f g h ∨ rc_emptyR (max a e) (max b f) (min c g) (min d h) then (0, 0, 0, 0) else (max a e, max b f, min c g, min d h)
abbrev rcv (p : Int × Int × Int × Int) : Value := rc_rect4 p.1 p.2.1 p.2.2.1 p.2.2.2
set_option maxRecDepth 100000 in
set_option maxHeartbeats 4000000 in
theorem both_any (a b c d e f g h : Int) (w : World) : Calls Tryz.prog 78 #[rc_rect4 a b c d, rc_rect4 e f g h] w fun e' w' => e' = .returned (rcv (bothR a b c d e f g h)) ∧ Below w.heap.size w w' := by
  have hL := (((Lie.start w).alloc (rc_rectA a b c d) 59).alloc (rc_rectA e f g h) 59).alloc (rc_rectA 0 0 0 0) 59
  simp only [World.size_alloc] at hL
  have k2 := hL.k 2 (by simp)
  have k3 := hL.k 1 (by simp)
  have k4 := hL.k 0 (by simp)
  simp only [List.getElem_cons_zero, List.getElem_cons_succ] at k2 k3 k4
  have hE1 := fun w' => rc_empty_any a b c d w'
  have hE2 := fun w' => rc_empty_any e f g h w'
  by_cases h1 : rc_emptyR a b c d
  · have HE : Hid (bothR a b c d e f g h = (0, 0, 0, 0)) := by unfold bothR Hid; rw [if_pos (.inl h1)]
    rw [show decide (rc_emptyR a b c d) = true from decide_eq_true h1] at hE1
    clear h1 hE2
    go_enter Tryz.func78, Tryz.ntmps78
    go_wp2_with (first
      | (refine rc_ldRect rfl _ rfl k2 rfl ?_)
      | (go_at_call 81; (with_reducible refine (hE1 _).mono ?_); rintro e' w1 ⟨rfl, hb1⟩; have hL1 := hL.nx hb1; have k41 := k4.nx hb1)
      | (refine rc_stRect rfl _ _ rfl k41 rfl rfl rfl ?_; intro w2 k42 hg2 hs2))
    refine bodyPost_ret (rc_res_rect rfl k42 rfl) rfl ?_
    exact ⟨by rw [HE.out], below_of_gb hL1.bel hg2 (by omega) hL1.sz⟩
  · rw [show decide (rc_emptyR a b c d) = false from decide_eq_false h1] at hE1
    by_cases h2 : rc_emptyR e f g h
    · have HE : Hid (bothR a b c d e f g h = (0, 0, 0, 0)) := by unfold bothR Hid; rw [if_pos (.inr (.inl h2))]
      rw [show decide (rc_emptyR e f g h) = true from decide_eq_true h2] at hE2
      clear h1 h2
      go_enter Tryz.func78, Tryz.ntmps78
      go_wp2_with (first
        | (refine rc_ldRect rfl _ rfl k2 rfl ?_)
        | (refine rc_ldRect rfl _ rfl k31 rfl ?_)
        | (go_at_call 81; (with_reducible refine (hE1 _).mono ?_); rintro e' w1 ⟨rfl, hb1⟩; have hL1 := hL.nx hb1; have k31 := k3.nx hb1; have q31 := k31.cell4; obtain ⟨g30, g31, g32, g33⟩ := q31)
        | (go_at_call 81; (with_reducible refine (hE2 _).mono ?_); rintro e' w2 ⟨rfl, hb2⟩; have hL2 := hL1.nx hb2; have k42 := (k4.nx hb1).nx hb2)
        | (refine rc_stRect rfl _ _ rfl k42 rfl rfl rfl ?_; intro w3 k43 hg3 hs3))
      refine bodyPost_ret (rc_res_rect rfl k43 rfl) rfl ?_
      exact ⟨by rw [HE.out], below_of_gb hL2.bel hg3 (by omega) hL2.sz⟩
    · rw [show decide (rc_emptyR e f g h) = false from decide_eq_false h2] at hE2
      have HE : Hid (bothR a b c d e f g h = if rc_emptyR (max a e) (max b f) (min c g) (min d h) then (0, 0, 0, 0) else (max a e, max b f, min c g, min d h)) := by
        unfold bothR Hid
        by_cases h3 : rc_emptyR (max a e) (max b f) (min c g) (min d h)
        · rw [if_pos (.inr (.inr h3)), if_pos h3]
        · rw [if_neg (by rintro (h | h | h) <;> contradiction), if_neg h3]
      have hN1 := fun h3 w' => rc_norm_e (max a e) (max b f) (min c g) (min d h) w' h3
      have hN2 := fun h3 w' => rc_norm_ok (max a e) (max b f) (min c g) (min d h) w' h3
      clear h1 h2
      by_cases h3 : rc_emptyR (max a e) (max b f) (min c g) (min d h)
      · replace hN1 := hN1 h3
        replace HE : Hid (bothR a b c d e f g h = (0, 0, 0, 0)) := by have := HE.out; rw [if_pos h3] at this; exact this
        clear h3 hN2
        obtain ⟨c20, c21, c22, c23⟩ := k2.cell4
        obtain ⟨c30, c31, c32, c33⟩ := k3.cell4
        go_enter Tryz.func78, Tryz.ntmps78
        go_wp2_with (first
          | (refine rc_ldRect rfl _ rfl k2 rfl ?_)
          | (refine rc_ldRect rfl _ rfl k31 rfl ?_)
          | (go_at_call 81; (with_reducible refine (hE1 _).mono ?_); rintro e' w1 ⟨rfl, hb1⟩; have hL1 := hL.nx hb1; have k31 := k3.nx hb1; have q31 := k31.cell4; obtain ⟨g30, g31, g32, g33⟩ := q31)
          | (go_at_call 81; (with_reducible refine (hE2 _).mono ?_); rintro e' w2 ⟨rfl, hb2⟩; have hL2 := hL1.nx hb2; have k22 := (k2.nx hb1).nx hb2; have k32 := (k3.nx hb1).nx hb2; have k42 := (k4.nx hb1).nx hb2; have q2 := k22.cell4; have q3 := k32.cell4; obtain ⟨e20, e21, e22, e23⟩ := q2; obtain ⟨e30, e31, e32, e33⟩ := q3)
          | (go_at_call 92; (with_reducible refine (hN1 _).mono ?_); rintro e' w3 ⟨rfl, hb3⟩; have hL3 := hL2.nx hb3; have k43 := k42.nx hb3)
          | (refine rc_stRect rfl _ _ rfl k43 rfl rfl rfl ?_; intro w5 k45 hg5 hs5))
        refine bodyPost_ret (rc_res_rect rfl k45 rfl) rfl ?_
        exact ⟨by rw [HE.out], below_of_gb hL3.bel hg5 (by omega) hL3.sz⟩
      · replace hN2 := hN2 h3
        replace HE : Hid (bothR a b c d e f g h = (max a e, max b f, min c g, min d h)) := by have := HE.out; rw [if_neg h3] at this; exact this
        clear h3 hN1
        obtain ⟨c20, c21, c22, c23⟩ := k2.cell4
        obtain ⟨c30, c31, c32, c33⟩ := k3.cell4
        go_enter Tryz.func78, Tryz.ntmps78
        go_wp2_with (first
          | (refine rc_ldRect rfl _ rfl k2 rfl ?_)
          | (refine rc_ldRect rfl _ rfl k31 rfl ?_)
          | (go_at_call 81; (with_reducible refine (hE1 _).mono ?_); rintro e' w1 ⟨rfl, hb1⟩; have hL1 := hL.nx hb1; have k31 := k3.nx hb1; have q31 := k31.cell4; obtain ⟨g30, g31, g32, g33⟩ := q31)
          | (go_at_call 81; (with_reducible refine (hE2 _).mono ?_); rintro e' w2 ⟨rfl, hb2⟩; have hL2 := hL1.nx hb2; have k22 := (k2.nx hb1).nx hb2; have k32 := (k3.nx hb1).nx hb2; have k42 := (k4.nx hb1).nx hb2; have q2 := k22.cell4; have q3 := k32.cell4; obtain ⟨e20, e21, e22, e23⟩ := q2; obtain ⟨e30, e31, e32, e33⟩ := q3)
          | (go_at_call 92; (with_reducible refine (hN2 _).mono ?_); rintro e' w3 ⟨rfl, hb3⟩; have hL3 := hL2.nx hb3; have k43 := k42.nx hb3)
          | (refine rc_stRect rfl _ _ rfl k43 rfl rfl rfl ?_; intro w5 k45 hg5 hs5))
        refine bodyPost_ret (rc_res_rect rfl k45 rfl) rfl ?_
        exact ⟨by rw [HE.out], below_of_gb hL3.bel hg5 (by omega) hL3.sz⟩
end Go.Proofs.YtahiaeaobbofbaaGreat
end
