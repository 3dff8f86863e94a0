/- The law BoxTwos. -/
import Derived.Test.YtlbiiljncacdoaaGreatBx6
set_option linter.unusedVariables false
namespace Go.Proofs.YtlbiiljncacdoaaGreat
open Go.RowKit
theorem ca_box : Tryz.prog.cellsOf 83 = 4 := by kernel_rfl
theorem ca_2i : Tryz.prog.cellsOf 99 = 2 := by kernel_rfl
set_option maxRecDepth 100000 in
theorem open_box {w : World} {cs : List Value} (h : Rv Tryz.prog w 83 cs) : ∃ a b c d : Int, cs = [.int .i64 a, .int .i64 b, .int .i64 c, .int .i64 d] := by
  obtain ⟨hl, hf⟩ := rv_struct Tryz.underlying83 h
  rw [ca_box] at hl
  match cs, hl with
  | [v0, v1, v2, v3], _ =>
    have g0 : Rv Tryz.prog w 2 (([v0, v1, v2, v3].drop 0).take (Tryz.prog.cellsOf 2)) := hf 0 _ rfl
    have g1 : Rv Tryz.prog w 2 (([v0, v1, v2, v3].drop 1).take (Tryz.prog.cellsOf 2)) := hf 1 _ rfl
    have g2 : Rv Tryz.prog w 2 (([v0, v1, v2, v3].drop 2).take (Tryz.prog.cellsOf 2)) := hf 2 _ rfl
    have g3 : Rv Tryz.prog w 2 (([v0, v1, v2, v3].drop 3).take (Tryz.prog.cellsOf 2)) := hf 3 _ rfl
    rw [ca_i64] at g0 g1 g2 g3
    obtain ⟨a, e0, i0⟩ := rv_int Tryz.underlying2 g0
    obtain ⟨b, e1, i1⟩ := rv_int Tryz.underlying2 g1
    obtain ⟨c, e2, i2⟩ := rv_int Tryz.underlying2 g2
    obtain ⟨d, e3, i3⟩ := rv_int Tryz.underlying2 g3
    simp at e0 e1 e2 e3
    subst e0 e1 e2 e3
    exact ⟨a, b, c, d, rfl⟩
set_option maxRecDepth 100000 in
theorem lawBoxTwos (cs0 cs1 : Array Value) (k : Int) (w : World) (h0 : Rv Tryz.prog w 98 cs0.toList) (h1 : Rv Tryz.prog w 99 cs1.toList) (h2 : (Lit.int .i64 k).wf = true) :
    Calls Tryz.prog 11 #[.agg cs0, .agg cs1, .int .i64 k] w fun e w' => e = .returned (.bool true) ∧ Below w.heap.size w w' := by
  obtain ⟨hl, hf⟩ := rv_struct Tryz.underlying98 h0
  rw [ca_two] at hl
  obtain ⟨l0⟩ := cs0
  have hl8 : l0.length = 8 := hl
  have g0 : Rv Tryz.prog w 83 ((l0.drop 0).take (Tryz.prog.cellsOf 83)) := hf 0 _ rfl
  have g1 : Rv Tryz.prog w 83 ((l0.drop 4).take (Tryz.prog.cellsOf 83)) := hf 1 _ rfl
  rw [ca_box] at g0 g1
  obtain ⟨a, b, c, d, e0⟩ := open_box g0
  obtain ⟨e, f, g, h, e1⟩ := open_box g1
  match l0, hl8 with
  | [v0, v1, v2, v3, v4, v5, v6, v7], _ =>
    simp at e0 e1
    obtain ⟨rfl, rfl, rfl, rfl⟩ := e0
    obtain ⟨rfl, rfl, rfl, rfl⟩ := e1
    obtain ⟨hl1, hel⟩ := rv_array Tryz.underlying99 h1
    rw [ca_i64] at hel
    rw [ca_2i] at hl1
    obtain ⟨l1⟩ := cs1
    match l1, hl1 with
    | [y0, y1], _ =>
      obtain ⟨u, e4, i4⟩ := rv_int Tryz.underlying2 (hel 0 (by omega))
      obtain ⟨v, e5, i5⟩ := rv_int Tryz.underlying2 (hel 1 (by omega))
      simp at e4 e5
      subst e4 e5
      exact walkBoxTwos a b c d e f g h u v k w
end Go.Proofs.YtlbiiljncacdoaaGreat
