/- Wide numbers as numbers of 64 bits. -/
import Derived.Test.YtlbiiljncacdoaaGreatWd3
set_option linter.unusedVariables false
namespace Go.Proofs.YtlbiiljncacdoaaGreat
open Go.RowKit
theorem wd2_keep {w w' : World} {B g : Nat} {x y : Value} (h : w.cell? ⟨g, 0, none⟩ = some x ∧ w.cell? ⟨g, 1, none⟩ = some y) (hg : g < B) (hb : Below B w w') : w'.cell? ⟨g, 0, none⟩ = some x ∧ w'.cell? ⟨g, 1, none⟩ = some y ∧ Below B w w' :=
  ⟨(hb.cell (by exact hg)).trans h.1, (hb.cell (by exact hg)).trans h.2, hb⟩
theorem fits_facts (z : Int) : ∃ x, wrap64 (lo6 z) = x ∧ J64 x ∧ (J64 z → x = z) ∧ (¬ J64 z → hi6 x ≠ hi6 z) := by
  refine ⟨_, rfl, ?_, ?_, ?_⟩ <;> rw [w64] <;> unfold J64 lo6 <;> (try unfold hi6) <;> omega
set_option maxRecDepth 100000 in
set_option maxHeartbeats 4000000 in
theorem fits64_yes (z : Int) (w : World) (hz : J64 z) : Calls Tryz.prog 262 #[WV z] w fun e w' => e = .returned (.tuple #[.int .i64 z, .bool true]) ∧ Below w.heap.size w w' := by
  obtain ⟨x, e1, hx, hx1, hx2⟩ := fits_facts z
  obtain rfl := hx1 hz
  have hO := fun w' => wof_any x w' hx
  have hK := Bk.new w 261 (wdA x)
  have hbz := (Below.refl w.heap.size w).alloc (Nat.le_refl _) (.cells (wdA x) 261)
  clear hx hx1 hz hx2
  go_enter Tryz.func262, Tryz.ntmps262
  go_upto_region 2 with fail
  generalize w.alloc (.cells (wdA x) 261) = w1 at *
  have hc := hK.cell2
  have hlt := hK.lt
  obtain ⟨c0, c1⟩ := hc
  go_region_held3 (fun w' => w'.cell? ⟨w.heap.size, 0, none⟩ = some (.int .i64 (hi6 x)) ∧ w'.cell? ⟨w.heap.size, 1, none⟩ = some (.int .u64 (lo6 x)) ∧ Below w1.heap.size w1 w')
    (first | with_reducible exact wd2_keep ⟨c0, c1⟩ hlt hbl | (refine wd2_keep ⟨c0, c1⟩ hlt ?_; go_grown))
    (first | (go_at_call 261; (with_reducible refine (hO _).mono ?_); rintro e wl ⟨rfl, hbl'⟩; have hbl : Below w1.heap.size w1 wl := by first | exact hbl' | exact Below.trans (by go_grown) hbl'))
  all_goals
    rename_i hHeld
    have hbx := hHeld.2.2
    clear hHeld
    go_wp2_with fail
    go_returns
    exact ⟨rfl, hbz.trans (hbx.mono hbz.size)⟩
set_option maxRecDepth 100000 in
set_option maxHeartbeats 4000000 in
theorem fits64_no (z : Int) (w : World) (hz : ¬ J64 z) : Calls Tryz.prog 262 #[WV z] w fun e w' => e = .returned (.tuple #[.int .i64 0, .bool false]) ∧ Below w.heap.size w w' := by
  obtain ⟨x, e1, hx, hx1, hx2⟩ := fits_facts z
  have hne : ¬ hi6 x = hi6 z := hx2 hz
  have hO := fun w' => wof_any x w' hx
  have hK := Bk.new w 261 (wdA z)
  have hbz := (Below.refl w.heap.size w).alloc (Nat.le_refl _) (.cells (wdA z) 261)
  clear hx hx1 hz hx2
  go_enter Tryz.func262, Tryz.ntmps262
  go_upto_region 2 with fail
  generalize w.alloc (.cells (wdA z) 261) = w1 at *
  have hc := hK.cell2
  have hlt := hK.lt
  obtain ⟨c0, c1⟩ := hc
  go_region_held3 (fun w' => w'.cell? ⟨w.heap.size, 0, none⟩ = some (.int .i64 (hi6 z)) ∧ w'.cell? ⟨w.heap.size, 1, none⟩ = some (.int .u64 (lo6 z)) ∧ Below w1.heap.size w1 w')
    (first | with_reducible exact wd2_keep ⟨c0, c1⟩ hlt hbl | (refine wd2_keep ⟨c0, c1⟩ hlt ?_; go_grown))
    (first | (go_at_call 261; (with_reducible refine (hO _).mono ?_); rintro e wl ⟨rfl, hbl'⟩; have hbl : Below w1.heap.size w1 wl := by first | exact hbl' | exact Below.trans (by go_grown) hbl'))
  all_goals
    rename_i hHeld
    have hbx := hHeld.2.2
    clear hHeld
    go_wp2_with fail
    go_returns
    exact ⟨rfl, hbz.trans (hbx.mono hbz.size)⟩
end Go.Proofs.YtlbiiljncacdoaaGreat
