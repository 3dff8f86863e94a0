/- The law MeterWarps. -/
import Derived.Test.YtencbfmcmpmdnaaGreatDoorMW2
import Derived.Test.YtencbfmcmpmdnaaGreatDoorKS
import Derived.Test.YtencbfmcmpmdnaaGreatDoorOX
import Derived.Test.YtencbfmcmpmdnaaGreatDoorKG
import Derived.Test.YtencbfmcmpmdnaaGreatDoorKH
set_option linter.unusedVariables false
namespace Go.Proofs.YtencbfmcmpmdnaaGreatDoor
open Go.RowKit
theorem ca_int44 : Tryz.prog.cellsOf 3 = 1 := by kernel_rfl
theorem ca_warp : Tryz.prog.cellsOf 29 = 12 := by kernel_rfl
theorem ca_xf44 : Tryz.prog.cellsOf 24 = 2 := by kernel_rfl
theorem ca_border : Tryz.prog.cellsOf 27 = 5 := by kernel_rfl
theorem ca_4b : Tryz.prog.cellsOf 25 = 4 := by kernel_rfl
theorem ca_byte : Tryz.prog.cellsOf 5 = 1 := by kernel_rfl
set_option maxRecDepth 100000 in
theorem open_4b {w : World} {cs : List Value} (h : Rv Tryz.prog w 25 cs) : ∃ a b c d : Int, cs = [.int .u8 a, .int .u8 b, .int .u8 c, .int .u8 d] := by
  obtain ⟨hl, hel⟩ := rv_array Tryz.underlying25 h
  rw [ca_byte] at hel
  rw [ca_4b] at hl
  match cs, hl with
  | [v0, v1, v2, v3], _ =>
    obtain ⟨a, e0, _⟩ := rv_int Tryz.underlying5 (hel 0 (by omega))
    obtain ⟨b, e1, _⟩ := rv_int Tryz.underlying5 (hel 1 (by omega))
    obtain ⟨c, e2, _⟩ := rv_int Tryz.underlying5 (hel 2 (by omega))
    obtain ⟨d, e3, _⟩ := rv_int Tryz.underlying5 (hel 3 (by omega))
    simp at e0 e1 e2 e3
    subst e0 e1 e2 e3
    exact ⟨a, b, c, d, rfl⟩
set_option maxRecDepth 100000 in
theorem open_border {w : World} {cs : List Value} (h : Rv Tryz.prog w 27 cs) : ∃ m a b c d : Int, cs = [.int .i64 m, .int .u8 a, .int .u8 b, .int .u8 c, .int .u8 d] := by
  obtain ⟨hl, hf⟩ := rv_struct Tryz.underlying27 h
  rw [ca_border] at hl
  match cs, hl with
  | [v0, v1, v2, v3, v4], _ =>
    have g0 : Rv Tryz.prog w 3 (([v0, v1, v2, v3, v4].drop 0).take (Tryz.prog.cellsOf 3)) := hf 0 _ rfl
    have g1 : Rv Tryz.prog w 25 (([v0, v1, v2, v3, v4].drop 1).take (Tryz.prog.cellsOf 25)) := hf 1 _ rfl
    rw [ca_int44] at g0
    rw [ca_4b] at g1
    obtain ⟨m, e0, _⟩ := rv_int Tryz.underlying3 g0
    obtain ⟨a, b, c, d, e1⟩ := open_4b g1
    simp at e0 e1
    obtain ⟨e1, e2, e3, e4⟩ := e1
    subst e0 e1 e2 e3 e4
    exact ⟨m, a, b, c, d, rfl⟩
set_option maxRecDepth 100000 in
set_option maxHeartbeats 2000000 in
theorem open_warp {w : World} {cs : List Value} (h : Rv Tryz.prog w 29 cs) : ∃ (k : Int) (A : Option Addr) (n c : Nat) (l : List Int) (W H kn s mo c0 c1 c2 c3 mi : Int), cs = (wrA k A n c W H kn s mo c0 c1 c2 c3 mi).toList ∧ l.length = n ∧ n ≤ c ∧ c ≤ maxLen ∧ (∀ z ∈ l, -9223372036854775808 ≤ z ∧ z ≤ 9223372036854775807) ∧ Rd w w.heap.size A (l.map (Value.int .i64)) := by
  obtain ⟨hl, hf⟩ := rv_struct Tryz.underlying29 h
  rw [ca_warp] at hl
  match cs, hl with
  | [v0, v1, v2, v3, v4, v5, v6, v7, v8, v9, v10, v11], _ =>
    have g0 : Rv Tryz.prog w 24 (([v0, v1, v2, v3, v4, v5, v6, v7, v8, v9, v10, v11].drop 0).take (Tryz.prog.cellsOf 24)) := hf 0 _ rfl
    have g1 : Rv Tryz.prog w 3 (([v0, v1, v2, v3, v4, v5, v6, v7, v8, v9, v10, v11].drop 2).take (Tryz.prog.cellsOf 3)) := hf 1 _ rfl
    have g2 : Rv Tryz.prog w 3 (([v0, v1, v2, v3, v4, v5, v6, v7, v8, v9, v10, v11].drop 3).take (Tryz.prog.cellsOf 3)) := hf 2 _ rfl
    have g3 : Rv Tryz.prog w 3 (([v0, v1, v2, v3, v4, v5, v6, v7, v8, v9, v10, v11].drop 4).take (Tryz.prog.cellsOf 3)) := hf 3 _ rfl
    have g4 : Rv Tryz.prog w 3 (([v0, v1, v2, v3, v4, v5, v6, v7, v8, v9, v10, v11].drop 5).take (Tryz.prog.cellsOf 3)) := hf 4 _ rfl
    have g5 : Rv Tryz.prog w 27 (([v0, v1, v2, v3, v4, v5, v6, v7, v8, v9, v10, v11].drop 6).take (Tryz.prog.cellsOf 27)) := hf 5 _ rfl
    have g6 : Rv Tryz.prog w 3 (([v0, v1, v2, v3, v4, v5, v6, v7, v8, v9, v10, v11].drop 11).take (Tryz.prog.cellsOf 3)) := hf 6 _ rfl
    rw [ca_xf44] at g0
    rw [ca_int44] at g1 g2 g3 g4 g6
    rw [ca_border] at g5
    obtain ⟨k, A, n, c, l, e0, _, h3, h1, h2, h4, h5⟩ := open_xform g0
    obtain ⟨W, e1, _⟩ := rv_int Tryz.underlying3 g1
    obtain ⟨H, e2, _⟩ := rv_int Tryz.underlying3 g2
    obtain ⟨kn, e3, _⟩ := rv_int Tryz.underlying3 g3
    obtain ⟨s, e4, _⟩ := rv_int Tryz.underlying3 g4
    obtain ⟨mo, a, b, c', d, e5⟩ := open_border g5
    obtain ⟨mi, e6, _⟩ := rv_int Tryz.underlying3 g6
    simp at e0 e1 e2 e3 e4 e5 e6
    obtain ⟨e0, e0'⟩ := e0
    obtain ⟨f0, f1, f2, f3, f4⟩ := e5
    subst e0 e0' e1 e2 e3 e4 f0 f1 f2 f3 f4 e6
    exact ⟨k, A, n, c, l, W, H, kn, s, mo, a, b, c', d, mi, rfl, h3, h1, h2, h4, h5⟩
end Go.Proofs.YtencbfmcmpmdnaaGreatDoor
