/- Rectangles: norms, areas, places. -/
import Derived.Test.YtpcjoalbhicccaaTh1
import Derived.Test.YtpcjoalbhicccaaRowG
set_option linter.unusedVariables false
namespace Go.Proofs.Ytpcjoalbhicccaa
open Go.RowKit
theorem rect_size : (Try.prog.info? 26).map (·.size) = some 4 := by kernel_rfl
abbrev rectA (a b c d : Int) : Array Value := #[.int .i64 a, .int .i64 b, .int .i64 c, .int .i64 d]
theorem stRect {ops : Array Oper} {rest : List Oper} {o : Oper} {a : Act} {w : World} {Q : Exit → Act → World → Prop} (hgd : o.guard = none) (x y : Operand) (ho : o.op = .store 26 x y)
    {g : Nat} {old : Array Value} (hK : Bk w g 26 old) (hold : old.size = 4) {p q r s : Int} (hx : a.eval x = .pointer (some ⟨g, 0, none⟩)) (hy : a.eval y = rect4 p q r s)
    (h : ∀ w', Bk w' g 26 (rectA p q r s) → w.grownBy w' (some g) → w'.heap.size = w.heap.size → wpList Try.prog ops Q rest (a.put o.dst undef) w') : wpList Try.prog ops Q (o :: rest) a w :=
  stB hgd _ x y ho hK _ hx hy rect_size (by simpa using hold) (by simp [Value.oneCell']) h
theorem ldRect {ops : Array Oper} {rest : List Oper} {o : Oper} {a : Act} {w : World} {Q : Exit → Act → World → Prop} (hgd : o.guard = none) (x : Operand) (ho : o.op = .load 26 x)
    {g : Nat} {p q r s : Int} (hK : Bk w g 26 (rectA p q r s)) (hx : a.eval x = .pointer (some ⟨g, 0, none⟩))
    (h : wpList Try.prog ops Q rest (a.put o.dst (rect4 p q r s)) w) : wpList Try.prog ops Q (o :: rest) a w :=
  ldB hgd _ x ho hK hx Try.underlying26 rfl rect_size h
theorem res_rect {fn : Func} {p : Tmp} (h : fn.results = #[.cell p 26]) {tmps : Array Value} {w : World} {g : Nat} {a b c d : Int} (hK : Bk w g 26 (rectA a b c d))
    (hp : tmps.getD p undef = .pointer (some ⟨g, 0, none⟩)) : (results fn tmps).run Try.prog w = .ok (rect4 a b c d) w :=
  res_cell h hK hp Try.underlying26 rfl rect_size
theorem below_set4 {w w' : World} {g B : Nat} (hb : Below B w w') (hg : B ≤ g) (x y z u : Value) : Below B w ((((w'.setCell ⟨g, 0, none⟩ x).setCell ⟨g, 1, none⟩ y).setCell ⟨g, 2, none⟩ z).setCell ⟨g, 3, none⟩ u) :=
  (((hb.setCell (p := ⟨g, 0, none⟩) hg x).setCell (p := ⟨g, 1, none⟩) hg y).setCell (p := ⟨g, 2, none⟩) hg z).setCell (p := ⟨g, 3, none⟩) hg u
set_option maxHeartbeats 1000000 in
theorem norm_e (a b c d : Int) (w : World) (he : emptyR a b c d) : Calls Try.prog 62 #[rect4 a b c d] w fun e w' => e = .returned (rect4 0 0 0 0) ∧ Below w.heap.size w w' := by
  have hd : decide (emptyR a b c d) = true := decide_eq_true he
  clear he
  go_enter Try.func62, Try.ntmps62
  go_wp2_with (go_at_call 48; (with_reducible refine (empty_any _ _ _ _ _).mono ?_); rintro e w' ⟨rfl, hb⟩; have hcb := bcell hb; have hb1 := bl_alloc (bl_alloc hb); have hK2 := (Bk.new (w.alloc (.cells (rectA a b c d) 26)) 26 (rectA 0 0 0 0)).nx hb)
  simp only [World.size_alloc] at hK2
  refine bodyPost_ret (res_rect rfl (hK2.set4 _ _ _ _) rfl) rfl ?_
  exact ⟨rfl, below_set4 hb1 (by omega) _ _ _ _⟩
set_option maxHeartbeats 1000000 in
theorem norm_ok (a b c d : Int) (w : World) (he : ¬ emptyR a b c d) : Calls Try.prog 62 #[rect4 a b c d] w fun e w' => e = .returned (rect4 a b c d) ∧ Below w.heap.size w w' := by
  have hd : decide (emptyR a b c d) = false := decide_eq_false he
  clear he
  go_enter Try.func62, Try.ntmps62
  go_wp2_with (go_at_call 48; (with_reducible refine (empty_any _ _ _ _ _).mono ?_); rintro e w' ⟨rfl, hb⟩; have hcb := bcell hb; have hb1 := bl_alloc (bl_alloc hb); have hK2 := (Bk.new (w.alloc (.cells (rectA a b c d) 26)) 26 (rectA 0 0 0 0)).nx hb)
  simp only [World.size_alloc] at hK2
  refine bodyPost_ret (res_rect rfl (hK2.set4 _ _ _ _) rfl) rfl ?_
  exact ⟨rfl, below_set4 hb1 (by omega) _ _ _ _⟩
/-- The norm, whatever the rectangle. -/
abbrev nrm (a b c d : Int) (x : Int) : Int := if emptyR a b c d then 0 else x
set_option maxHeartbeats 1000000 in
theorem rnorm_e (a b c d : Int) (w : World) (he : emptyR a b c d) : Calls Try.prog 22 #[rect4 a b c d] w fun e w' => e = .returned (rect4 0 0 0 0) ∧ Below w.heap.size w w' := by
  by_cases hr : rightR a b c d
  all_goals
    first
      | (have hd : decide (rightR a b c d) = true := decide_eq_true hr)
      | (have hd : decide (rightR a b c d) = false := decide_eq_false hr)
    have HR := Lib.hid hr
    have HE := Lib.hid he
    clear he hr
    go_enter Try.func22, Try.ntmps22
    go_wp2_with (go_at_call 28; (with_reducible refine (rright_any _ _ _ _ _).mono ?_); rintro e w' ⟨rfl, hb⟩; have hcb := bcell hb; have hb1 := bl_alloc (bl_alloc hb); have hK2 := (Bk.new (w.alloc (.cells (rectA a b c d) 26)) 26 (rectA 0 0 0 0)).nx hb)
    all_goals
      simp only [World.size_alloc] at hK2
      refine bodyPost_ret (res_rect rfl (hK2.set4 _ _ _ _) rfl) rfl ?_
      first
        | exact ⟨rfl, below_set4 hb1 (by omega) _ _ _ _⟩
        | (exfalso; have := HE.out; have := HR.out; clear hcb; simp_all [emptyR] <;> omega)
set_option maxHeartbeats 1000000 in
theorem rnorm_ok (a b c d : Int) (w : World) (he : ¬ emptyR a b c d) : Calls Try.prog 22 #[rect4 a b c d] w fun e w' => e = .returned (rect4 a b c d) ∧ Below w.heap.size w w' := by
  have hr : rightR a b c d := by
    by_cases h : rightR a b c d
    · exact h
    · exact absurd (.inl h) he
  have hd : decide (rightR a b c d) = true := decide_eq_true hr
  have h1 : ¬ c ≤ a := fun h => he (.inr (.inl h))
  have h2 : ¬ d ≤ b := fun h => he (.inr (.inr h))
  clear he hr
  go_enter Try.func22, Try.ntmps22
  go_wp2_with (go_at_call 28; (with_reducible refine (rright_any _ _ _ _ _).mono ?_); rintro e w' ⟨rfl, hb⟩; have hcb := bcell hb; have hb1 := bl_alloc (bl_alloc hb); have hK2 := (Bk.new (w.alloc (.cells (rectA a b c d) 26)) 26 (rectA 0 0 0 0)).nx hb)
  simp only [World.size_alloc] at hK2
  refine bodyPost_ret (res_rect rfl (hK2.set4 _ _ _ _) rfl) rfl ?_
  exact ⟨rfl, below_set4 hb1 (by omega) _ _ _ _⟩
end Go.Proofs.Ytpcjoalbhicccaa
