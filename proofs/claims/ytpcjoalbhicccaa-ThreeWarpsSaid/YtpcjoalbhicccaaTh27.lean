/- The law ThreeWindows, of whatever slants. -/
import Derived.Test.YtpcjoalbhicccaaTh26
set_option linter.unusedVariables false
namespace Go.Proofs.Ytpcjoalbhicccaa
open Go.RowKit
theorem cs_i64s : Try.prog.cellsOf 39 = 1 := by kernel_rfl
theorem cs_int : Try.prog.cellsOf 3 = 1 := by kernel_rfl
theorem cs_i64 : Try.prog.cellsOf 2 = 1 := by kernel_rfl
theorem cs_u8 : Try.prog.cellsOf 5 = 1 := by kernel_rfl
theorem cs_4u8 : Try.prog.cellsOf 40 = 4 := by kernel_rfl
theorem cs_bord : Try.prog.cellsOf 42 = 5 := by kernel_rfl
theorem cs_slants : Try.prog.cellsOf 44 = 8 := by kernel_rfl
set_option maxRecDepth 100000 in
theorem open_slants {w : World} {cs : Array Value} (h : Rv Try.prog w 44 cs.toList) :
    ∃ (l : List Int) (A : Option Addr) (n cp : Nat) (W H m a b c d : Int), cs = #[.slice A n cp, .int .i64 W, .int .i64 H, .int .i64 m, .int .u8 a, .int .u8 b, .int .u8 c, .int .u8 d] ∧ l.length = n ∧ n ≤ cp ∧ cp ≤ maxLen ∧ Rd w w.heap.size A (l.map (Value.int .i64)) := by
  obtain ⟨hl, hf⟩ := rv_struct Try.underlying44 h
  rw [cs_slants] at hl
  obtain ⟨l8⟩ := cs
  match l8, hl with
  | [v0, v1, v2, v3, v4, v5, v6, v7], _ =>
    have g0 : Rv Try.prog w 39 (([v0, v1, v2, v3, v4, v5, v6, v7].drop 0).take (Try.prog.cellsOf 39)) := hf 0 _ rfl
    have g1 : Rv Try.prog w 3 (([v0, v1, v2, v3, v4, v5, v6, v7].drop 1).take (Try.prog.cellsOf 3)) := hf 1 _ rfl
    have g2 : Rv Try.prog w 3 (([v0, v1, v2, v3, v4, v5, v6, v7].drop 2).take (Try.prog.cellsOf 3)) := hf 2 _ rfl
    have g3 : Rv Try.prog w 42 (([v0, v1, v2, v3, v4, v5, v6, v7].drop 3).take (Try.prog.cellsOf 42)) := hf 3 _ rfl
    rw [cs_i64s] at g0
    rw [cs_int] at g1 g2
    rw [cs_bord] at g3
    obtain ⟨A', n', c', l, e0, hn, hc, hl', hw, hr⟩ := rv_ints Try.underlying39 Try.underlying2 cs_i64 g0
    obtain ⟨W, e1, _⟩ := rv_int Try.underlying3 g1
    obtain ⟨H, e2, _⟩ := rv_int Try.underlying3 g2
    obtain ⟨_, hb⟩ := rv_struct Try.underlying42 g3
    have b0 : Rv Try.prog w 3 (((([v0, v1, v2, v3, v4, v5, v6, v7].drop 3).take 5).drop 0).take (Try.prog.cellsOf 3)) := hb 0 _ rfl
    have b1 : Rv Try.prog w 40 (((([v0, v1, v2, v3, v4, v5, v6, v7].drop 3).take 5).drop 1).take (Try.prog.cellsOf 40)) := hb 1 _ rfl
    rw [cs_int] at b0
    rw [cs_4u8] at b1
    obtain ⟨m, e3, _⟩ := rv_int Try.underlying3 b0
    obtain ⟨_, hel⟩ := rv_array Try.underlying40 b1
    rw [cs_u8] at hel
    obtain ⟨a, e4, _⟩ := rv_int Try.underlying5 (hel 0 (by omega))
    obtain ⟨b, e5, _⟩ := rv_int Try.underlying5 (hel 1 (by omega))
    obtain ⟨c, e6, _⟩ := rv_int Try.underlying5 (hel 2 (by omega))
    obtain ⟨d, e7, _⟩ := rv_int Try.underlying5 (hel 3 (by omega))
    simp at e0 e1 e2 e3 e4 e5 e6 e7
    subst e0 e1 e2 e3 e4 e5 e6 e7
    exact ⟨l, A', n', c', W, H, m, a, b, c, d, rfl, hl', hn, hc, hr⟩
theorem lawThreeWindows (cs : Array Value) (w : World) (h : Rv Try.prog w 44 cs.toList) :
    Calls Try.prog 4 #[.agg cs] w fun e w' => e = .returned (.bool true) ∧ Below w.heap.size w w' := by
  obtain ⟨l, A, n, cp, W, H, m, a, b, c, d, rfl, hn, _, _, hr⟩ := open_slants h
  exact walkThreeWindows l A n cp W H m a b c d w hn hr
end Go.Proofs.Ytpcjoalbhicccaa
