/- The law MeterWays. -/
import Derived.Test.YtlbiiljncacdoaaGreatMv
import Derived.Test.YtlbiiljncacdoaaGreatMe5
set_option linter.unusedVariables false
namespace Go.Proofs.YtlbiiljncacdoaaGreat
open Go.RowKit
theorem wy_size : (Tryz.prog.info? 119).map (·.size) = some 4 := by kernel_rfl
set_option maxRecDepth 100000 in
set_option maxHeartbeats 4000000 in
theorem usual_any (w : World) : Calls Tryz.prog 67 #[] w fun e w' => e = .returned (wyV 64 64 16 none 0 0) ∧ Below w.heap.size w w' := by
  have hL := (Lie.start w).alloc (wyA 0 0 0 none 0 0) 119
  have k0 : Bk (w.alloc (.cells (wyA 0 0 0 none 0 0) 119)) w.heap.size 119 (wyA 0 0 0 none 0 0) := hL.k 0 (by simp)
  go_enter Tryz.func67, Tryz.ntmps67
  go_wp2_with (refine stB (ty := 119) (cells := wyA 64 64 16 none 0 0) rfl _ _ rfl k0 rfl rfl wy_size rfl (by simp [Value.oneCell']) ?_; intro w' hK' hg' _)
  refine bodyPost_ret (res_cell rfl hK' rfl Tryz.underlying119 rfl wy_size) rfl ?_
  exact ⟨rfl, below_of_gb hL.bel hg' (Nat.le_refl _) hL.sz⟩
set_option maxRecDepth 100000 in
set_option maxHeartbeats 16000000 in
theorem walkMeterWays (TW TH ca : Int) (l : List Int) (A : Option Addr) (n cp : Nat) (W H : Int) (w : World) (hl : l.length = n) (hr : Rd w w.heap.size A (l.map (Value.int .i64))) :
    Calls Tryz.prog 14 #[wyV TW TH ca A n cp, .int .i64 W, .int .i64 H] w fun e w' => e = .returned (.bool true) ∧ Below w.heap.size w w' := by
  have hL := (Lie.start w).alloc (wyA TW TH ca A n cp) 119
  have k3 : Bk (w.alloc (.cells (wyA TW TH ca A n cp) 119)) w.heap.size 119 (wyA TW TH ca A n cp) := hL.k 0 (by simp)
  by_cases hn : (3000 : Int) < n
  · have hb := hL.bel
    clear hl hr
    go_enter Tryz.func14, Tryz.ntmps14
    go_wp2_with fail
    go_returns
    exact ⟨rfl, hb⟩
  have hn1 : n ≤ 100000 := by omega
  have hM := fun w' (hb : Below w.heap.size w w') => mway_any TW TH ca l A n cp W H w' hl hn1 ((hr.below hb).more hb.size)
  have hR := fun w' (hb : Below w.heap.size w w') => rway_any TW TH ca l A n cp W H w' hl hn1 ((hr.below hb).more hb.size)
  have hMu := fun w' => mway_any 64 64 16 [] none 0 0 W H w' rfl (by omega) Rd.nil
  have hRu := fun w' => rway_any 64 64 16 [] none 0 0 W H w' rfl (by omega) Rd.nil
  have hAl := alive44
  clear hl hr
  generalize wyC TW TH ca l W H = C at *
  generalize wyC 64 64 16 [] W H = D at *
  go_enter Tryz.func14, Tryz.ntmps14
  go_upto_region 5 with (go_at_call 67; (with_reducible refine (usual_any _).mono ?_); rintro e w3 ⟨rfl, hb3⟩)
  have hL3 := (hL.nx hb3).alloc (wyA 64 64 16 none 0 0) 119
  have k33 := hL3.k 1 (by simp)
  have k73 := hL3.k 0 (by simp)
  simp only [List.getElem_cons_zero, List.getElem_cons_succ] at k33 k73
  generalize hw4 : w3.alloc (.cells (wyA 64 64 16 none 0 0) 119) = w4 at *
  clear hw4 hL k3 hb3
  generalize w3.heap.size = g7 at *
  have hbz := hL3.bel
  have hM2 := fun (n : Nat) (os : Array Obj) => hM _ (hbz.trans ((below_regrown w4 n os).mono hbz.size))
  have hR2 := fun (n : Nat) (os : Array Obj) => hR _ (hbz.trans ((below_regrown w4 n os).mono hbz.size))
  obtain ⟨e0, e1, e2, e3⟩ := k73.cell4
  have s0 := fun (n : Nat) (os : Array Obj) => cell_regrown e0 n os
  have s1 := fun (n : Nat) (os : Array Obj) => cell_regrown e1 n os
  have s2 := fun (n : Nat) (os : Array Obj) => cell_regrown e2 n os
  have s3 := fun (n : Nat) (os : Array Obj) => cell_regrown e3 n os
  clear hM hR
  refine wp_region_quiet_below (by kernel_rfl) (by kernel_rfl) ?_
  repeat (first
    | (refine wpQuiet_load rfl _ _ rfl k33 rfl Tryz.underlying119 rfl wy_size ?_; simp only [Act.put, List.setIfInBounds_toArray, List.set_cons_zero, List.set_cons_succ])
    | go_big_quiet_step ((first | with_reducible exact quiet_below (hM2 _ _) | with_reducible exact quiet_below (hR2 _ _) | with_reducible exact quiet_below (hMu _) | with_reducible exact quiet_below (hRu _) | with_reducible exact quiet_below (hAl _)))
    | quiet_step ((first | with_reducible exact quiet_below (hM2 _ _) | with_reducible exact quiet_below (hR2 _ _) | with_reducible exact quiet_below (hMu _) | with_reducible exact quiet_below (hRu _) | with_reducible exact quiet_below (hAl _))))
  refine wpQuiet_nil ?_
  intro _ hw'
  obtain ⟨⟨dd, os⟩, hw''⟩ := hw'
  subst hw''
  have hbx := below_regrown w4 dd os
  generalize Go.Sort.grow (redrawn w4 dd) os = wx at *
  have hb := hbz.trans (hbx.mono hbz.size)
  clear s0 s1 s2 s3 hM2 hR2 hMu hRu hAl e0 e1 e2 e3
  go_wp2_with fail
  go_returns
  exact ⟨rfl, hb⟩
theorem ca_way : Tryz.prog.cellsOf 119 = 4 := by kernel_rfl
theorem ca_sl : Tryz.prog.cellsOf 67 = 1 := by kernel_rfl
set_option maxRecDepth 100000 in
theorem lawMeterWays (cs0 : Array Value) (W H : Int) (w : World) (h0 : Rv Tryz.prog w 119 cs0.toList) (h1 : (Lit.int .i64 W).wf = true) (h2 : (Lit.int .i64 H).wf = true) :
    Calls Tryz.prog 14 #[.agg cs0, .int .i64 W, .int .i64 H] w fun e w' => e = .returned (.bool true) ∧ Below w.heap.size w w' := by
  obtain ⟨hl, hf⟩ := rv_struct Tryz.underlying119 h0
  rw [ca_way] at hl
  obtain ⟨l0⟩ := cs0
  match l0, hl with
  | [v0, v1, v2, v3], _ =>
    have g0 : Rv Tryz.prog w 3 (([v0, v1, v2, v3].drop 0).take (Tryz.prog.cellsOf 3)) := hf 0 _ rfl
    have g1 : Rv Tryz.prog w 3 (([v0, v1, v2, v3].drop 1).take (Tryz.prog.cellsOf 3)) := hf 1 _ rfl
    have g2 : Rv Tryz.prog w 3 (([v0, v1, v2, v3].drop 2).take (Tryz.prog.cellsOf 3)) := hf 2 _ rfl
    have g3 : Rv Tryz.prog w 67 (([v0, v1, v2, v3].drop 3).take (Tryz.prog.cellsOf 67)) := hf 3 _ rfl
    rw [ca_int] at g0 g1 g2
    rw [ca_sl] at g3
    obtain ⟨a, e0, i0⟩ := rv_int Tryz.underlying3 g0
    obtain ⟨b, e1, i1⟩ := rv_int Tryz.underlying3 g1
    obtain ⟨c, e2, i2⟩ := rv_int Tryz.underlying3 g2
    obtain ⟨A, n, cp, l, e3, q1, q2, q3, q4, q5⟩ := rv_ints Tryz.underlying67 Tryz.underlying3 ca_int g3
    simp at e0 e1 e2 e3
    subst e0 e1 e2 e3
    exact walkMeterWays a b c l A n cp W H w q3 q5
end Go.Proofs.YtlbiiljncacdoaaGreat
