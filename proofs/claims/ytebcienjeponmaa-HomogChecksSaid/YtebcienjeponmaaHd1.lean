/- hdda: small functions; the lines of a map. -/
import Derived.Test.YtebcienjeponmaaHm7
import Derived.BigRegion
import Derived.RegionTactic
set_option linter.unusedVariables false
namespace Go.Proofs.Ytebcienjeponmaa
open Go.RowKit
theorem res_cell3 {P : Program} {fn : Func} {p q r : Tmp} {ty : TypeId} (h : fn.results = #[.cell p ty, .cell q ty, .cell r ty]) {tmps : Array Value} {w : World} {g g2 g3 : Nat} {t : TypeId} {cs cs2 cs3 : Array Value} (hK : Bk w g t cs) (hK2 : Bk w g2 t cs2) (hK3 : Bk w g3 t cs3) {d : TypeDesc}
    (hp : tmps.getD p undef = .pointer (some ⟨g, 0, none⟩)) (hq : tmps.getD q undef = .pointer (some ⟨g2, 0, none⟩)) (hr : tmps.getD r undef = .pointer (some ⟨g3, 0, none⟩)) (hu : P.underlying ty = some d) (hd : (match d with | .struct _ | .array _ _ => true | _ => false) = true) (hi : (P.info? ty).map (·.size) = some cs.size) (hi2 : cs2.size = cs.size := by rfl) (hi3 : cs3.size = cs.size := by rfl) :
    (results fn tmps).run P w = .ok (.tuple #[.agg cs, .agg cs2, .agg cs3]) w := by
  have hp' : tmps[p]?.getD undef = .pointer (some ⟨g, 0, none⟩) := by simpa using hp
  have hq' : tmps[q]?.getD undef = .pointer (some ⟨g2, 0, none⟩) := by simpa using hq
  have hr' : tmps[r]?.getD undef = .pointer (some ⟨g3, 0, none⟩) := by simpa using hr
  simp [results, h, hp', hq', hr', asAddr, run_loadVar_row w g t ty cs (0, 0) d hK hu hd hi, run_loadVar_row w g2 t ty cs2 (0, 0) d hK2 hu hd (by rw [hi, hi2]), run_loadVar_row w g3 t ty cs3 (0, 0) d hK3 hu hd (by rw [hi, hi3])]
theorem hdin_any (a : Int) (w : World) : Calls Try.prog 51 #[.int .i64 a] w fun e w' => e = .returned (.bool (inH a 1048576)) ∧ w = w' := by
  rw [inH_eq]
  by_cases h1 : -1048576 ≤ a
  all_goals
    go_enter Try.func51, Try.ntmps51
    go_wp2
    go_ret
    exact ⟨ret_bool (by simp [h1] <;> omega), rfl⟩
set_option maxRecDepth 100000 in
set_option maxHeartbeats 4000000 in
theorem lines_any (a : Nat → Int) (g : Nat) (w : World) (hK : Bk w g 74 (mA a)) :
    Calls Try.prog 12 #[.pointer (some ⟨g, 0, none⟩)] w fun e w' => e = .returned (.tuple #[.agg (a3 (a 0) (a 1) (a 2)), .agg (a3 (a 3) (a 4) (a 5)), .agg (a3 (a 6) (a 7) (a 8))]) ∧ Below w.heap.size w w' := by
  have hL := (((Lie.start w).alloc (a3 0 0 0) 31).alloc (a3 0 0 0) 31).alloc (a3 0 0 0) 31
  simp only [World.size_alloc] at hL
  have hlt := hK.lt
  go_enter Try.func12, Try.ntmps12
  go_upto_region 3 with fail
  have hK3 := ((hK.alloc (.cells (a3 0 0 0) 31)).alloc (.cells (a3 0 0 0) 31)).alloc (.cells (a3 0 0 0) 31)
  generalize ((w.alloc (.cells (a3 0 0 0) 31)).alloc (.cells (a3 0 0 0) 31)).alloc (.cells (a3 0 0 0) 31) = w3 at *
  obtain ⟨c0, c1, c2, c3, c4, c5, c6, c7, c8⟩ := hK3.cell9
  have k0 : Bk w3 w.heap.size 31 (a3 0 0 0) := hL.k 2 (by simp)
  have k1 : Bk w3 (w.heap.size + 1) 31 (a3 0 0 0) := hL.k 1 (by simp)
  have k2 : Bk w3 (w.heap.size + 1 + 1) 31 (a3 0 0 0) := hL.k 0 (by simp)
  obtain ⟨d0, d1, d2⟩ := k0.cell3
  obtain ⟨d3, d4, d5⟩ := k1.cell3
  obtain ⟨d6, d7, d8⟩ := k2.cell3
  have f0 := k0.frozen
  have f1 := k1.frozen
  have f2 := k2.frozen
  have n0 : g ≠ w.heap.size := by omega
  have n1 : g ≠ w.heap.size + 1 := by omega
  have n2 : g ≠ w.heap.size + 1 + 1 := by omega
  go_region
  have b0 := (((((((((k0.set3 (.int .i64 (a 0)) (.int .i64 (a 1)) (.int .i64 (a 2))).far (p := ⟨w.heap.size + 1, 0, none⟩) (by simp) (.int .i64 (a 3))).far (p := ⟨w.heap.size + 1, 1, none⟩) (by simp) (.int .i64 (a 4))).far (p := ⟨w.heap.size + 1, 2, none⟩) (by simp) (.int .i64 (a 5))).far (p := ⟨w.heap.size + 1 + 1, 0, none⟩) (by simp; omega) (.int .i64 (a 6))).far (p := ⟨w.heap.size + 1 + 1, 1, none⟩) (by simp; omega) (.int .i64 (a 7))).far (p := ⟨w.heap.size + 1 + 1, 2, none⟩) (by simp; omega) (.int .i64 (a 8)))).drew)
  have b1 := (((((((k1.far (p := ⟨w.heap.size, 0, none⟩) (by simp) (.int .i64 (a 0))).far (p := ⟨w.heap.size, 1, none⟩) (by simp) (.int .i64 (a 1))).far (p := ⟨w.heap.size, 2, none⟩) (by simp) (.int .i64 (a 2))).set3 (.int .i64 (a 3)) (.int .i64 (a 4)) (.int .i64 (a 5))).far (p := ⟨w.heap.size + 1 + 1, 0, none⟩) (by simp) (.int .i64 (a 6))).far (p := ⟨w.heap.size + 1 + 1, 1, none⟩) (by simp) (.int .i64 (a 7))).far (p := ⟨w.heap.size + 1 + 1, 2, none⟩) (by simp) (.int .i64 (a 8))).drew
  have b2 := (((((((k2.far (p := ⟨w.heap.size, 0, none⟩) (by simp; omega) (.int .i64 (a 0))).far (p := ⟨w.heap.size, 1, none⟩) (by simp; omega) (.int .i64 (a 1))).far (p := ⟨w.heap.size, 2, none⟩) (by simp; omega) (.int .i64 (a 2))).far (p := ⟨w.heap.size + 1, 0, none⟩) (by simp) (.int .i64 (a 3))).far (p := ⟨w.heap.size + 1, 1, none⟩) (by simp) (.int .i64 (a 4))).far (p := ⟨w.heap.size + 1, 2, none⟩) (by simp) (.int .i64 (a 5))).set3 (.int .i64 (a 6)) (.int .i64 (a 7)) (.int .i64 (a 8))).drew
  have hbl : Below w.heap.size w _ := (((((((((hL.bel.setCell (p := ⟨w.heap.size, 0, none⟩) (by simp) (.int .i64 (a 0))).setCell (p := ⟨w.heap.size, 1, none⟩) (by simp) (.int .i64 (a 1))).setCell (p := ⟨w.heap.size, 2, none⟩) (by simp) (.int .i64 (a 2))).setCell (p := ⟨w.heap.size + 1, 0, none⟩) (by simp) (.int .i64 (a 3))).setCell (p := ⟨w.heap.size + 1, 1, none⟩) (by simp) (.int .i64 (a 4))).setCell (p := ⟨w.heap.size + 1, 2, none⟩) (by simp) (.int .i64 (a 5))).setCell (p := ⟨w.heap.size + 1 + 1, 0, none⟩) (by simp; omega) (.int .i64 (a 6))).setCell (p := ⟨w.heap.size + 1 + 1, 1, none⟩) (by simp; omega) (.int .i64 (a 7))).setCell (p := ⟨w.heap.size + 1 + 1, 2, none⟩) (by simp; omega) (.int .i64 (a 8)))
  replace hbl := below_drewN hbl 1
  clear f0 f1 f2 d0 d1 d2 d3 d4 d5 d6 d7 d8 c0 c1 c2 c3 c4 c5 c6 c7 c8 k0 k1 k2
  go_wp2_with fail
  refine bodyPost_ret (res_cell3 rfl b0 b1 b2 rfl rfl rfl Try.underlying31 rfl a3_info) rfl ?_
  exact ⟨rfl, hbl⟩
end Go.Proofs.Ytebcienjeponmaa
