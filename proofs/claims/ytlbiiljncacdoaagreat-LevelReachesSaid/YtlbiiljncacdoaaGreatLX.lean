/- The law LevelReaches. -/
import Derived.Test.YtlbiiljncacdoaaGreatLT
import Derived.Test.YtlbiiljncacdoaaGreatKA
import Derived.Test.YtlbiiljncacdoaaGreatXI
import Derived.Test.YtlbiiljncacdoaaGreatOX
import Derived.Test.YtlbiiljncacdoaaGreatKG
import Derived.Test.YtlbiiljncacdoaaGreatKI
set_option linter.unusedVariables false
namespace Go.Proofs.YtlbiiljncacdoaaGreat
open Go.RowKit
set_option maxHeartbeats 400000 in
theorem alive32_lx (w : World) :
    Calls Tryz.prog 34 #[] w fun e w' => e = .returned (.bool true) ∧ w = w' := by
  go_enter Tryz.func34, Tryz.ntmps34
  have e1 : lv 262144 (lvTop 9) = 2 := by decide
  have e2 : lvTo 32768 1 = 0 := by decide
  go_wp2_with (first
    | (go_at_call 90; refine (lv_pick_any _ _ _).mono ?_; rintro e w' ⟨rfl, rfl⟩)
    | (go_at_call 91; refine (lv_to_any _ _ _ (by omega) (by omega)).mono ?_; rintro e w' ⟨rfl, rfl⟩))
  go_ret
  exact ⟨rfl, rfl⟩
theorem ca_int1 : Tryz.prog.cellsOf 3 = 1 := by kernel_rfl
theorem ca_pix32 : Tryz.prog.cellsOf 53 = 3 := by kernel_rfl
set_option maxRecDepth 100000 in
theorem open_pix32 {w : World} {cs : List Value} (h : Rv Tryz.prog w 53 cs) : ∃ a b c : Int, cs = [.int .i64 a, .int .i64 b, .int .i64 c] := by
  obtain ⟨hl, hf⟩ := rv_struct Tryz.underlying53 h
  rw [ca_pix32] at hl
  match cs, hl with
  | [v0, v1, v2], _ =>
    have g0 : Rv Tryz.prog w 3 (([v0, v1, v2].drop 0).take (Tryz.prog.cellsOf 3)) := hf 0 _ rfl
    have g1 : Rv Tryz.prog w 3 (([v0, v1, v2].drop 1).take (Tryz.prog.cellsOf 3)) := hf 1 _ rfl
    have g2 : Rv Tryz.prog w 3 (([v0, v1, v2].drop 2).take (Tryz.prog.cellsOf 3)) := hf 2 _ rfl
    rw [ca_int1] at g0 g1 g2
    obtain ⟨a, e0, i0⟩ := rv_int Tryz.underlying3 g0
    obtain ⟨b, e1, i1⟩ := rv_int Tryz.underlying3 g1
    obtain ⟨c, e2, i2⟩ := rv_int Tryz.underlying3 g2
    simp at e0 e1 e2
    subst e0 e1 e2
    exact ⟨a, b, c, rfl⟩
theorem lawLevelReaches (cs0 cs1 cs2 : Array Value) (w : World) (h0 : Rv Tryz.prog w 31 cs0.toList) (h1 : Rv Tryz.prog w 22 cs1.toList) (h2 : Rv Tryz.prog w 53 cs2.toList) :
    Calls Tryz.prog 6 #[.agg cs0, .agg cs1, .agg cs2] w fun e w' => e = .returned (.bool true) ∧ Below w.heap.size w w' := by
  obtain ⟨k, A, n, cp, l, e0, _, hl, hn, hcm, hok, hr⟩ := open_xform h0
  obtain rfl : cs0 = #[.int .i64 k, .slice A n cp] := by cases cs0; simp at e0; simp [e0]
  obtain ⟨W, H, rfl, hW, hH⟩ := open_size h1
  obtain ⟨x, y, m, e2⟩ := open_pix32 h2
  obtain rfl : cs2 = #[.int .i64 x, .int .i64 y, .int .i64 m] := by cases cs2; simp at e2; simp [e2]
  have hn63 : n ≤ 9223372036854775807 := by simp [maxLen] at hcm; omega
  refine walkLevelReaches k A n cp W H x y m (xC k l W H) (xF k l) (xG k l) (xE k l) (fun d m => (lv d (lvTop m) : Nat)) w
    (fun _ => newMp_any k l A n cp W H w hl hn hcm hr)
    (fun _ w' hb => rcheck24 k l A n cp W H w' hl hn63 (hr.below hb) hb.size hok)
    (fun hz w' x y d hb => rat24 k l A n cp W H x y d w' hl (hr.below hb) hb.size hz)
    (fun hz => ?_) (fun d m w' => lv_pick_any d m w') (fun d m w' => lv_rpick_any d m w') alive32_lx
  obtain ⟨hW, hH⟩ := szH_iff.1 (xC_zero hz).2.1
  refine ⟨⟨hW.2, hH.2⟩, fun a b a0 a1 b0 b1 => ?_⟩
  have hp : rightH a b 1 = true := rightH_iff.2 ⟨⟨by omega, by omega⟩, ⟨by omega, by omega⟩, by omega, by omega⟩
  obtain ⟨_, h1, h2⟩ := in_plain (d := 1) hz hp (by omega) (by omega) (by omega) (by omega)
  exact ⟨h1, h2⟩
end Go.Proofs.YtlbiiljncacdoaaGreat
