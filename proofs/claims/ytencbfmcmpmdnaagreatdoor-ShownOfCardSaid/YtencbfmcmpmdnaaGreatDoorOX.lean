/- A transform among a row's arguments, opened. -/
import Derived.Test.YtencbfmcmpmdnaaGreatDoorOP
set_option linter.unusedVariables false
namespace Go.Proofs.YtencbfmcmpmdnaaGreatDoor
open Go.RowKit
theorem ca_xform : Tryz.prog.cellsOf 24 = 2 := by kernel_rfl
theorem ca_nums : Tryz.prog.cellsOf 22 = 1 := by kernel_rfl
set_option maxRecDepth 100000 in
theorem open_xform {w : World} {cs : List Value} (h : Rv Tryz.prog w 24 cs) : ∃ (k : Int) (A : Option Addr) (n c : Nat) (l : List Int), cs = [.int .i64 k, .slice A n c] ∧ I64 k ∧ l.length = n ∧ n ≤ c ∧ c ≤ maxLen ∧ (∀ z ∈ l, -9223372036854775808 ≤ z ∧ z ≤ 9223372036854775807) ∧ Rd w w.heap.size A (l.map (Value.int .i64)) := by
  obtain ⟨hl, hf⟩ := rv_struct Tryz.underlying24 h
  rw [ca_xform] at hl
  match cs, hl with
  | [v0, v1], _ =>
    have g0 : Rv Tryz.prog w 3 (([v0, v1].drop 0).take (Tryz.prog.cellsOf 3)) := hf 0 _ rfl
    have g1 : Rv Tryz.prog w 22 (([v0, v1].drop 1).take (Tryz.prog.cellsOf 22)) := hf 1 _ rfl
    rw [ca_int] at g0
    rw [ca_nums] at g1
    obtain ⟨a, e0, i0⟩ := rv_int Tryz.underlying3 g0
    obtain ⟨A, n, c, l, e1, h1, h2, h3, h4, h5⟩ := rv_ints Tryz.underlying22 Tryz.underlying2 ca_i64 g1
    simp at e0 e1
    subst e0 e1
    exact ⟨a, A, n, c, l, rfl, wf_i64 i0, h3, h1, h2, fun z hz => wf_i64 (h4 z hz), h5⟩
end Go.Proofs.YtencbfmcmpmdnaaGreatDoor
