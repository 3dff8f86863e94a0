/- The law ThreePasses, of whatever is handed in. -/
import Derived.Test.YtpcjoalbhicccaaTh33
import Derived.Test.YtpcjoalbhicccaaOpenI
set_option linter.unusedVariables false
namespace Go.Proofs.Ytpcjoalbhicccaa
open Go.RowKit
theorem cs_rect : Try.prog.cellsOf 26 = 4 := by kernel_rfl
theorem cs_int64 : Try.prog.cellsOf 2 = 1 := by kernel_rfl
theorem cs_pass : Try.prog.cellsOf 28 = 11 := by kernel_rfl
set_option maxRecDepth 100000 in
theorem open_rect {w : World} {cs : List Value} (h : Rv Try.prog w 26 cs) : ∃ (a b c d : Int), cs = [.int .i64 a, .int .i64 b, .int .i64 c, .int .i64 d] := by
  obtain ⟨hl, hf⟩ := rv_struct Try.underlying26 h
  rw [cs_rect] at hl
  match cs, hl with
  | [v0, v1, v2, v3], _ =>
    have g0 : Rv Try.prog w 3 (([v0, v1, v2, v3].drop 0).take (Try.prog.cellsOf 3)) := hf 0 _ rfl
    have g1 : Rv Try.prog w 3 (([v0, v1, v2, v3].drop 1).take (Try.prog.cellsOf 3)) := hf 1 _ rfl
    have g2 : Rv Try.prog w 3 (([v0, v1, v2, v3].drop 2).take (Try.prog.cellsOf 3)) := hf 2 _ rfl
    have g3 : Rv Try.prog w 3 (([v0, v1, v2, v3].drop 3).take (Try.prog.cellsOf 3)) := hf 3 _ rfl
    rw [co_int] at g0 g1 g2 g3
    obtain ⟨a, e0, _⟩ := rv_int Try.underlying3 g0
    obtain ⟨b, e1, _⟩ := rv_int Try.underlying3 g1
    obtain ⟨c, e2, _⟩ := rv_int Try.underlying3 g2
    obtain ⟨d, e3, _⟩ := rv_int Try.underlying3 g3
    simp at e0 e1 e2 e3
    subst e0 e1 e2 e3
    exact ⟨a, b, c, d, rfl⟩
set_option maxRecDepth 100000 in
theorem open_pass {w : World} {cs : List Value} (h : Rv Try.prog w 28 cs) : ∃ (a b c d x0 y0 x1 y1 p r s : Int), cs = (passA a b c d x0 y0 x1 y1 p r s).toList := by
  obtain ⟨hl, hf⟩ := rv_struct Try.underlying28 h
  rw [cs_pass] at hl
  match cs, hl with
  | [v0, v1, v2, v3, v4, v5, v6, v7, v8, v9, v10], _ =>
    have g0 : Rv Try.prog w 26 (([v0, v1, v2, v3, v4, v5, v6, v7, v8, v9, v10].drop 0).take (Try.prog.cellsOf 26)) := hf 0 _ rfl
    have g1 : Rv Try.prog w 26 (([v0, v1, v2, v3, v4, v5, v6, v7, v8, v9, v10].drop 4).take (Try.prog.cellsOf 26)) := hf 1 _ rfl
    have g2 : Rv Try.prog w 2 (([v0, v1, v2, v3, v4, v5, v6, v7, v8, v9, v10].drop 8).take (Try.prog.cellsOf 2)) := hf 2 _ rfl
    have g3 : Rv Try.prog w 2 (([v0, v1, v2, v3, v4, v5, v6, v7, v8, v9, v10].drop 9).take (Try.prog.cellsOf 2)) := hf 3 _ rfl
    have g4 : Rv Try.prog w 2 (([v0, v1, v2, v3, v4, v5, v6, v7, v8, v9, v10].drop 10).take (Try.prog.cellsOf 2)) := hf 4 _ rfl
    rw [cs_rect] at g0 g1
    rw [cs_int64] at g2 g3 g4
    obtain ⟨a, b, c, d, e0⟩ := open_rect g0
    obtain ⟨x0, y0, x1, y1, e1⟩ := open_rect g1
    obtain ⟨p, e2, _⟩ := rv_int Try.underlying2 g2
    obtain ⟨r, e3, _⟩ := rv_int Try.underlying2 g3
    obtain ⟨s, e4, _⟩ := rv_int Try.underlying2 g4
    simp at e0 e1 e2 e3 e4
    obtain ⟨rfl, rfl, rfl, rfl⟩ := e0
    obtain ⟨rfl, rfl, rfl, rfl⟩ := e1
    subst e2 e3 e4
    exact ⟨a, b, c, d, x0, y0, x1, y1, p, r, s, rfl⟩
theorem lawThreePasses (cs0 cs1 : Array Value) (w : World) (h0 : Rv Try.prog w 24 cs0.toList) (h1 : Rv Try.prog w 28 cs1.toList) :
    Calls Try.prog 3 #[.agg cs0, .agg cs1] w fun e w' => e = .returned (.bool true) ∧ Below w.heap.size w w' := by
  obtain ⟨W, H, C, l, A, n, cp, e0, hl, hn, _, _, hr, _⟩ := open_img h0
  obtain ⟨a, b, c, d, x0, y0, x1, y1, p, r, s, e1⟩ := open_pass h1
  obtain ⟨l0⟩ := cs0
  obtain ⟨l1⟩ := cs1
  simp only at e0 e1
  subst e0 e1
  exact walkThreePasses W H C A n cp l a b c d x0 y0 x1 y1 p r s w hl hr hn
end Go.Proofs.Ytpcjoalbhicccaa
