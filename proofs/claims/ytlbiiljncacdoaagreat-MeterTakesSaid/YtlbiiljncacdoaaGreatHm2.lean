/- Maps of straight lines: three numbers out of wide ones. -/
import Derived.Test.YtlbiiljncacdoaaGreatHm1
set_option linter.unusedVariables false
namespace Go.Proofs.YtlbiiljncacdoaaGreat
open Go.RowKit
abbrev a3 (x y z : Int) : Array Value := #[.int .i64 x, .int .i64 y, .int .i64 z]
theorem a3_info : (Tryz.prog.info? 255).map (·.size) = some 3 := by kernel_rfl
/-- three numbers, the first k of them there. -/
def th3 (x y z : Int) (k : Nat) : Array Value := match k with | 0 => a3 0 0 0 | 1 => a3 x 0 0 | 2 => a3 x y 0 | _ => a3 x y z
set_option maxRecDepth 100000 in
set_option maxHeartbeats 8000000 in
theorem three_any (g o cp : Nat) (x y z : Int) (w : World) (hg : g < w.heap.size) (hx : J64 x) (hy : J64 y) (hz : J64 z)
    (h0 : w.cell? ⟨g, o, none⟩ = some (.int .i64 (hi6 x))) (h1 : w.cell? ⟨g, o + 1, none⟩ = some (.int .u64 (lo6 x)))
    (h2 : w.cell? ⟨g, o + 2, none⟩ = some (.int .i64 (hi6 y))) (h3 : w.cell? ⟨g, o + 3, none⟩ = some (.int .u64 (lo6 y)))
    (h4 : w.cell? ⟨g, o + 4, none⟩ = some (.int .i64 (hi6 z))) (h5 : w.cell? ⟨g, o + 5, none⟩ = some (.int .u64 (lo6 z))) :
    Calls Tryz.prog 255 #[.slice (some ⟨g, o, none⟩) 3 cp] w fun e w' => e = .returned (.agg (a3 x y z)) ∧ Below w.heap.size w w' := by
  have hFx := fun w' => fits64_yes x w' hx
  have hFy := fun w' => fits64_yes y w' hy
  have hFz := fun w' => fits64_yes z w' hz
  have hL := ((Lie.start w).alloc (a3 0 0 0) 255).alloc (a3 0 0 0) 255
  simp only [World.size_alloc] at hL
  clear hx hy hz
  go_enter Tryz.func255, Tryz.ntmps255
  go_wp2_with fail
  go_loopw [4, 5, 8] (fun _ _ kv wr => ∃ k : Nat, k ≤ 3 ∧ kv = .int .i64 k ∧ Lie w [(w.heap.size + 1, 255, th3 x y z k), (w.heap.size, 255, a3 0 0 0)] wr) (fun _ _ kv _ => 3 - (intOf kv).toNat)
  case atStart => exact ⟨0, by omega, rfl, hL⟩
  case round =>
    clear hL
    obtain ⟨k, hk, rfl, hL⟩ := hrel
    by_cases hlt : k < 3
    · have c0 := (hL.bel.cell (p := ⟨g, o, none⟩) hg).trans h0
      have c1 := (hL.bel.cell (p := ⟨g, o + 1, none⟩) hg).trans h1
      have c2 := (hL.bel.cell (p := ⟨g, o + 2, none⟩) hg).trans h2
      have c3 := (hL.bel.cell (p := ⟨g, o + 3, none⟩) hg).trans h3
      have c4 := (hL.bel.cell (p := ⟨g, o + 4, none⟩) hg).trans h4
      have c5 := (hL.bel.cell (p := ⟨g, o + 5, none⟩) hg).trans h5
      have hgr : g < wr.heap.size := Nat.lt_of_lt_of_le hg hL.sz
      have h3c : k = 0 ∨ k = 1 ∨ k = 2 := by omega
      rcases h3c with rfl | rfl | rfl
      · have hLa := hL.alloc (wdA x) 261
        go_wp2_with (go_at_call 262; (with_reducible refine (hFx _).mono ?_); rintro e w2 ⟨rfl, hb2⟩; have hL2 := hLa.nx hb2; have k3 : Bk w2 (w.heap.size + 1) 255 (a3 0 0 0) := hL2.k 1 (by simp); obtain ⟨d0, d1, d2⟩ := k3.cell3; have f0 := k3.frozen 0)
        have hL3 : Lie w [(w.heap.size + 1, 255, a3 0 0 0), (w.heap.size, 255, a3 0 0 0)] w2 := hL2.sub (fun q hq => List.mem_cons_of_mem _ hq)
        have hL4 := hL3.set (gb_set1 w2 ⟨w.heap.size + 1, 0, none⟩ (.int .i64 x)) (k3.set 0 (.int .i64 x)) (by simp) (by intro q hq; simp at hq; rcases hq with rfl; simp)
        exact ⟨⟨1, by omega, rfl, hL4⟩, by simp [intOf]⟩
      · have hLa := hL.alloc (wdA y) 261
        go_wp2_with (go_at_call 262; (with_reducible refine (hFy _).mono ?_); rintro e w2 ⟨rfl, hb2⟩; have hL2 := hLa.nx hb2; have k3 : Bk w2 (w.heap.size + 1) 255 (a3 x 0 0) := hL2.k 1 (by simp); obtain ⟨d0, d1, d2⟩ := k3.cell3; have f0 := k3.frozen 1)
        have hL3 : Lie w [(w.heap.size + 1, 255, a3 x 0 0), (w.heap.size, 255, a3 0 0 0)] w2 := hL2.sub (fun q hq => List.mem_cons_of_mem _ hq)
        have hL4 := hL3.set (gb_set1 w2 ⟨w.heap.size + 1, 1, none⟩ (.int .i64 y)) (k3.set 1 (.int .i64 y)) (by simp) (by intro q hq; simp at hq; rcases hq with rfl; simp)
        exact ⟨⟨2, by omega, rfl, hL4⟩, by simp [intOf]⟩
      · have hLa := hL.alloc (wdA z) 261
        go_wp2_with (go_at_call 262; (with_reducible refine (hFz _).mono ?_); rintro e w2 ⟨rfl, hb2⟩; have hL2 := hLa.nx hb2; have k3 : Bk w2 (w.heap.size + 1) 255 (a3 x y 0) := hL2.k 1 (by simp); obtain ⟨d0, d1, d2⟩ := k3.cell3; have f0 := k3.frozen 2)
        have hL3 : Lie w [(w.heap.size + 1, 255, a3 x y 0), (w.heap.size, 255, a3 0 0 0)] w2 := hL2.sub (fun q hq => List.mem_cons_of_mem _ hq)
        have hL4 := hL3.set (gb_set1 w2 ⟨w.heap.size + 1, 2, none⟩ (.int .i64 z)) (k3.set 2 (.int .i64 z)) (by simp) (by intro q hq; simp at hq; rcases hq with rfl; simp)
        exact ⟨⟨3, by omega, rfl, hL4⟩, by simp [intOf]⟩
    · obtain rfl : k = 3 := by omega
      have k3 : Bk wr (w.heap.size + 1) 255 (a3 x y z) := hL.k 0 (by simp)
      have k2 : Bk wr w.heap.size 255 (a3 0 0 0) := hL.k 1 (by simp)
      obtain ⟨d0, d1, d2⟩ := k3.cell3
      go_wp2_with (refine stB rfl 255 _ _ rfl k2 (a3 x y z) rfl rfl a3_info rfl (by simp [Value.oneCell']) ?_; intro w6 k26 hg6 hs6)
      refine bodyPost_ret (res_cell rfl k26 rfl Tryz.underlying255 rfl a3_info) rfl ?_
      exact ⟨rfl, below_of_gb hL.bel hg6 (by omega) hL.sz⟩
end Go.Proofs.YtlbiiljncacdoaaGreat
