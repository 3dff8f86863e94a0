/- Images that come in: what the row's reading tells of them. -/
import Derived.Test.YtahiaeaobbofbaaGreatOpen
set_option linter.unusedVariables false
namespace Go.Proofs.YtahiaeaobbofbaaGreat
open Go.RowKit
theorem co_int : Tryz.prog.cellsOf 3 = 1 := by kernel_rfl
theorem co_u8 : Tryz.prog.cellsOf 5 = 1 := by kernel_rfl
theorem co_u8s : Tryz.prog.cellsOf 42 = 1 := by kernel_rfl
theorem co_img : Tryz.prog.cellsOf 44 = 4 := by kernel_rfl
set_option maxRecDepth 100000 in
theorem open_img {w : World} {cs : List Value} (h : Rv Tryz.prog w 44 cs) :
    ∃ (W H C : Int) (l : List Int) (A : Option Addr) (n cp : Nat), cs = [.int .i64 W, .int .i64 H, .int .i64 C, .slice A n cp] ∧ l.length = n ∧ n ≤ cp ∧ cp ≤ maxLen ∧ (∀ z ∈ l, (Lit.int .u8 z).wf = true) ∧ Rd w w.heap.size A (l.map (Value.int .u8)) ∧ (Lit.int .i64 W).wf = true ∧ (Lit.int .i64 H).wf = true ∧ (Lit.int .i64 C).wf = true := by
  obtain ⟨hl, hf⟩ := rv_struct Tryz.underlying44 h
  rw [co_img] at hl
  match cs, hl with
  | [v0, v1, v2, v3], _ =>
    have g0 : Rv Tryz.prog w 3 (([v0, v1, v2, v3].drop 0).take (Tryz.prog.cellsOf 3)) := hf 0 _ rfl
    have g1 : Rv Tryz.prog w 3 (([v0, v1, v2, v3].drop 1).take (Tryz.prog.cellsOf 3)) := hf 1 _ rfl
    have g2 : Rv Tryz.prog w 3 (([v0, v1, v2, v3].drop 2).take (Tryz.prog.cellsOf 3)) := hf 2 _ rfl
    have g3 : Rv Tryz.prog w 42 (([v0, v1, v2, v3].drop 3).take (Tryz.prog.cellsOf 42)) := hf 3 _ rfl
    rw [co_int] at g0 g1 g2
    rw [co_u8s] at g3
    obtain ⟨W, e0, k0⟩ := rv_int Tryz.underlying3 g0
    obtain ⟨H, e1, k1⟩ := rv_int Tryz.underlying3 g1
    obtain ⟨C, e2, k2⟩ := rv_int Tryz.underlying3 g2
    obtain ⟨A', n', c', l, e3, hn, hc, hl', hw, hr⟩ := rv_ints Tryz.underlying42 Tryz.underlying5 co_u8 g3
    simp at e0 e1 e2 e3
    subst e0 e1 e2 e3
    exact ⟨W, H, C, l, A', n', c', rfl, hl', hn, hc, hw, hr, k0, k1, k2⟩
end Go.Proofs.YtahiaeaobbofbaaGreat
