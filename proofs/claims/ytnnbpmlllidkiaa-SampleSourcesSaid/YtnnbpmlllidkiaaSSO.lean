/- SampleSources: how it is sampled, a place: opened. -/
import Derived.Test.YtnnbpmlllidkiaaSS1
set_option linter.unusedVariables false
namespace Go.Proofs.Ytnnbpmlllidkiaa
open Go.RowKit
theorem co_int33 : Try.prog.cellsOf 3 = 1 := by kernel_rfl
theorem co_4b33 : Try.prog.cellsOf 23 = 4 := by kernel_rfl
theorem co_bord33 : Try.prog.cellsOf 25 = 5 := by kernel_rfl
theorem co_how33 : Try.prog.cellsOf 27 = 7 := by kernel_rfl
theorem co_p333 : Try.prog.cellsOf 28 = 3 := by kernel_rfl
set_option maxRecDepth 100000 in
theorem open_4b33 {w : World} {cs : List Value} (h : Rv Try.prog w 23 cs) : ∃ a b c d : Int, cs = [.int .u8 a, .int .u8 b, .int .u8 c, .int .u8 d] := by
  obtain ⟨hl, hel⟩ := rv_array Try.underlying23 h
  rw [co_4b33] at hl
  match cs, hl with
  | [v0, v1, v2, v3], _ =>
    rw [co_u8] at hel
    obtain ⟨a, e0, _⟩ := rv_int Try.underlying5 (hel 0 (by omega))
    obtain ⟨b, e1, _⟩ := rv_int Try.underlying5 (hel 1 (by omega))
    obtain ⟨c, e2, _⟩ := rv_int Try.underlying5 (hel 2 (by omega))
    obtain ⟨d, e3, _⟩ := rv_int Try.underlying5 (hel 3 (by omega))
    simp at e0 e1 e2 e3
    subst e0 e1 e2 e3
    exact ⟨a, b, c, d, rfl⟩
set_option maxRecDepth 100000 in
theorem open_p3 {w : World} {cs : List Value} (h : Rv Try.prog w 28 cs) : ∃ a b c : Int, cs = [.int .i64 a, .int .i64 b, .int .i64 c] := by
  obtain ⟨hl, hel⟩ := rv_array Try.underlying28 h
  rw [co_p333] at hl
  match cs, hl with
  | [v0, v1, v2], _ =>
    rw [co_int33] at hel
    obtain ⟨a, e0, _⟩ := rv_int Try.underlying3 (hel 0 (by omega))
    obtain ⟨b, e1, _⟩ := rv_int Try.underlying3 (hel 1 (by omega))
    obtain ⟨c, e2, _⟩ := rv_int Try.underlying3 (hel 2 (by omega))
    simp at e0 e1 e2
    subst e0 e1 e2
    exact ⟨a, b, c, rfl⟩
set_option maxRecDepth 100000 in
theorem open_bord33 {w : World} {cs : List Value} (h : Rv Try.prog w 25 cs) : ∃ m a b c d : Int, cs = [.int .i64 m, .int .u8 a, .int .u8 b, .int .u8 c, .int .u8 d] := by
  obtain ⟨hl, hf⟩ := rv_struct Try.underlying25 h
  rw [co_bord33] at hl
  match cs, hl with
  | [v0, v1, v2, v3, v4], _ =>
    have g0 : Rv Try.prog w 3 (([v0, v1, v2, v3, v4].drop 0).take (Try.prog.cellsOf 3)) := hf 0 _ rfl
    have g1 : Rv Try.prog w 23 (([v0, v1, v2, v3, v4].drop 1).take (Try.prog.cellsOf 23)) := hf 1 _ rfl
    rw [co_int33] at g0
    rw [co_4b33] at g1
    obtain ⟨m, e0, _⟩ := rv_int Try.underlying3 g0
    obtain ⟨a, b, c, d, e1⟩ := open_4b33 g1
    simp at e0 e1
    obtain ⟨e1, e2, e3, e4⟩ := e1
    subst e0 e1 e2 e3 e4
    exact ⟨m, a, b, c, d, rfl⟩
set_option maxRecDepth 100000 in
theorem open_how {w : World} {cs : List Value} (h : Rv Try.prog w 27 cs) : ∃ k n m a b c d : Int, cs = [.int .i64 k, .int .i64 n, .int .i64 m, .int .u8 a, .int .u8 b, .int .u8 c, .int .u8 d] := by
  obtain ⟨hl, hf⟩ := rv_struct Try.underlying27 h
  rw [co_how33] at hl
  match cs, hl with
  | [v0, v1, v2, v3, v4, v5, v6], _ =>
    have g0 : Rv Try.prog w 3 (([v0, v1, v2, v3, v4, v5, v6].drop 0).take (Try.prog.cellsOf 3)) := hf 0 _ rfl
    have g1 : Rv Try.prog w 3 (([v0, v1, v2, v3, v4, v5, v6].drop 1).take (Try.prog.cellsOf 3)) := hf 1 _ rfl
    have g2 : Rv Try.prog w 25 (([v0, v1, v2, v3, v4, v5, v6].drop 2).take (Try.prog.cellsOf 25)) := hf 2 _ rfl
    rw [co_int33] at g0 g1
    rw [co_bord33] at g2
    obtain ⟨k, e0, _⟩ := rv_int Try.underlying3 g0
    obtain ⟨n, e1, _⟩ := rv_int Try.underlying3 g1
    obtain ⟨m, a, b, c, d, e2⟩ := open_bord33 g2
    simp at e0 e1 e2
    obtain ⟨f0, f1, f2, f3, f4⟩ := e2
    subst e0 e1 f0 f1 f2 f3 f4
    exact ⟨k, n, m, a, b, c, d, rfl⟩
end Go.Proofs.Ytnnbpmlllidkiaa
