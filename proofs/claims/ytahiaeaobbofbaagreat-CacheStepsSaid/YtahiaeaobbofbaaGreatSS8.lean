/- The reference's code of images; places; few; alive. -/
import Derived.Test.YtahiaeaobbofbaaGreatSS5
set_option linter.unusedVariables false
namespace Go.Proofs.YtahiaeaobbofbaaGreat
open Go.RowKit
set_option maxRecDepth 100000 in
set_option maxHeartbeats 4000000 in
theorem rplace_in (m : Im) (A : Option Addr) (cp : Nat) (x y : Int) (w : World) (h : checkC m.W m.H m.C m.px.length = 0) (hx : 0 ≤ x ∧ x < m.W) (hy : 0 ≤ y ∧ y < m.H) :
    Calls Tryz.prog 18 #[.agg #[.int .i64 m.W, .int .i64 m.H, .int .i64 m.C, .slice A m.px.length cp], .int .i64 x, .int .i64 y, .int .i64 0] w fun e w' => e = .returned (.int .i64 ((y * m.W + x) * m.C)) ∧ Below w.heap.size w w' := by
  obtain ⟨W, H, C, px⟩ := m
  simp only at *
  obtain ⟨hf, hl⟩ := ck_parts h
  obtain ⟨hc, hw1, hw2, hh1, hh2, hp⟩ := fitsC_ok hf
  obtain ⟨⟨a1, a2⟩, ⟨a3, a4⟩, ⟨a5, a6⟩, a7⟩ := at_bd (C := C) (by omega) ⟨hw1, hw2⟩ ⟨hh1, hh2⟩ hx hy
  have v1 : wrap64 (y * W) = y * W := IntWalk.wrap64_in _ ⟨by omega, by omega⟩
  have v2 : wrap64 (y * W + x) = y * W + x := IntWalk.wrap64_in _ ⟨by omega, by omega⟩
  have v3 : wrap64 ((y * W + x) * C) = (y * W + x) * C := IntWalk.wrap64_in _ ⟨by omega, by omega⟩
  have hC1 : 0 < C := by omega
  have HH := Lib.hid h
  obtain ⟨hx1, hx2⟩ := hx
  obtain ⟨hy1, hy2⟩ := hy
  clear h a1 a2 a3 a4 a5 a6 a7 hp hc hf hl
  generalize px.length = n at *
  have hC : ∀ w, Calls Tryz.prog 44 #[.agg #[.int .i64 W, .int .i64 H, .int .i64 C, .slice A n cp]] w fun e w' => e = .returned (.int .i64 0) ∧ Below w.heap.size w w' := fun w => rcheck_ok _ _ _ _ _ _ _ HH.out
  go_enter Tryz.func18, Tryz.ntmps18
  go_wp2_with (go_at_call 44; (with_reducible refine (hC _).mono ?_); rintro e w1 ⟨rfl, hb⟩; have hb1 := ((Below.refl w.heap.size w).alloc (Nat.le_refl _) (.cells #[.int .i64 W, .int .i64 H, .int .i64 C, .slice A n cp] 44)).trans (hb.mono (by simp)); obtain ⟨d0, d1, d2, d3⟩ := ((Bk.new w 44 #[.int .i64 W, .int .i64 H, .int .i64 C, .slice A n cp]).nx hb).cell4)
  go_returns
  exact ⟨ret_int (by first | rfl | exact v3 | simp [v3]), hb1⟩
set_option maxRecDepth 100000 in
set_option maxHeartbeats 4000000 in
theorem rplace_out (m : Im) (A : Option Addr) (cp : Nat) (x y : Int) (w : World) (h : checkC m.W m.H m.C m.px.length = 0) (ho : x < 0 ∨ m.W ≤ x ∨ y < 0 ∨ m.H ≤ y) :
    Calls Tryz.prog 18 #[.agg #[.int .i64 m.W, .int .i64 m.H, .int .i64 m.C, .slice A m.px.length cp], .int .i64 x, .int .i64 y, .int .i64 0] w fun e w' => e = .returned (.int .i64 (-1)) ∧ Below w.heap.size w w' := by
  obtain ⟨W, H, C, px⟩ := m
  simp only at *
  have HH := Lib.hid h
  clear h
  generalize px.length = n at *
  have hC : ∀ w, Calls Tryz.prog 44 #[.agg #[.int .i64 W, .int .i64 H, .int .i64 C, .slice A n cp]] w fun e w' => e = .returned (.int .i64 0) ∧ Below w.heap.size w w' := fun w => rcheck_ok _ _ _ _ _ _ _ HH.out
  rcases (show x < 0 ∨ (0 ≤ x ∧ W ≤ x) ∨ (0 ≤ x ∧ x < W ∧ y < 0) ∨ (0 ≤ x ∧ x < W ∧ 0 ≤ y ∧ H ≤ y) by omega) with h1 | ⟨h1, h2⟩ | ⟨h1, h2, h3⟩ | ⟨h1, h2, h3, h4⟩
  all_goals
    clear ho
    go_enter Tryz.func18, Tryz.ntmps18
    go_wp2_with (go_at_call 44; (with_reducible refine (hC _).mono ?_); rintro e w1 ⟨rfl, hb⟩; have hb1 := ((Below.refl w.heap.size w).alloc (Nat.le_refl _) (.cells #[.int .i64 W, .int .i64 H, .int .i64 C, .slice A n cp] 44)).trans (hb.mono (by simp)); obtain ⟨d0, d1, d2, d3⟩ := ((Bk.new w 44 #[.int .i64 W, .int .i64 H, .int .i64 C, .slice A n cp]).nx hb).cell4)
    go_returns
    exact ⟨rfl, hb1⟩
end Go.Proofs.YtahiaeaobbofbaaGreat
