/- turn: where a place comes from. -/
import Derived.Test.YtlbiiljncacdoaaGreatX5
set_option linter.unusedVariables false
namespace Go.Proofs.YtlbiiljncacdoaaGreat
open Go.RowKit
abbrev plV (x y W H : Int) : Value := .agg #[.int .i64 x, .int .i64 y, .int .i64 W, .int .i64 H]
abbrev plA (x y W H : Int) : Array Value := #[.int .i64 x, .int .i64 y, .int .i64 W, .int .i64 H]
/-- near enough -/
def Nr (x : Int) : Prop := -1099511627776 ≤ x ∧ x ≤ 1099511627776
set_option maxHeartbeats 1000000 in
theorem pnone_any (x y W H : Int) (w : World) (h1 : Nr x) (h2 : Nr y) (h3 : Nr W) (h4 : Nr H) : Calls Tryz.prog 276 #[plV x y W H] w fun e w' => e = .returned (.tuple #[.int .i64 x, .int .i64 y]) ∧ Below w.heap.size w w' := by
  have hb := (Below.refl w.heap.size w).alloc (Nat.le_refl _) (.cells (plA x y W H) 310)
  unfold Nr at *
  go_enter Tryz.func276, Tryz.ntmps276
  go_wp2_with fail
  go_quiet (fail)
  go_wp2_with fail
  go_returns
  exact ⟨rfl, below_drewN hb _⟩
set_option maxHeartbeats 1000000 in
theorem ponce_any (x y W H : Int) (w : World) (h1 : Nr x) (h2 : Nr y) (h3 : Nr W) (h4 : Nr H) : Calls Tryz.prog 277 #[plV x y W H] w fun e w' => e = .returned (.tuple #[.int .i64 y, .int .i64 (H - x)]) ∧ Below w.heap.size w w' := by
  have hb := (Below.refl w.heap.size w).alloc (Nat.le_refl _) (.cells (plA x y W H) 310)
  unfold Nr at *
  have e1 : IntKind.i64.wrap (H - x) = H - x := IntWalk.i64_in _ ⟨by omega, by omega⟩
  go_enter Tryz.func277, Tryz.ntmps277
  go_wp2_with fail
  go_quiet (fail)
  go_wp2_with fail
  go_returns
  exact ⟨rfl, below_drewN hb _⟩
set_option maxHeartbeats 1000000 in
theorem ptwice_any (x y W H : Int) (w : World) (h1 : Nr x) (h2 : Nr y) (h3 : Nr W) (h4 : Nr H) : Calls Tryz.prog 278 #[plV x y W H] w fun e w' => e = .returned (.tuple #[.int .i64 (W - x), .int .i64 (H - y)]) ∧ Below w.heap.size w w' := by
  have hb := (Below.refl w.heap.size w).alloc (Nat.le_refl _) (.cells (plA x y W H) 310)
  unfold Nr at *
  have e1 : IntKind.i64.wrap (W - x) = W - x := IntWalk.i64_in _ ⟨by omega, by omega⟩
  have e2 : IntKind.i64.wrap (H - y) = H - y := IntWalk.i64_in _ ⟨by omega, by omega⟩
  go_enter Tryz.func278, Tryz.ntmps278
  go_wp2_with fail
  go_quiet (fail)
  go_wp2_with fail
  go_returns
  exact ⟨rfl, below_drewN hb _⟩
set_option maxHeartbeats 1000000 in
theorem pthrice_any (x y W H : Int) (w : World) (h1 : Nr x) (h2 : Nr y) (h3 : Nr W) (h4 : Nr H) : Calls Tryz.prog 279 #[plV x y W H] w fun e w' => e = .returned (.tuple #[.int .i64 (W - y), .int .i64 x]) ∧ Below w.heap.size w w' := by
  have hb := (Below.refl w.heap.size w).alloc (Nat.le_refl _) (.cells (plA x y W H) 310)
  unfold Nr at *
  have e1 : IntKind.i64.wrap (W - y) = W - y := IntWalk.i64_in _ ⟨by omega, by omega⟩
  go_enter Tryz.func279, Tryz.ntmps279
  go_wp2_with fail
  go_quiet (fail)
  go_wp2_with fail
  go_returns
  exact ⟨rfl, below_drewN hb _⟩
theorem qu_ix0 (w : World) : (Instr.index 312 (.agg quA) (.int .i64 0)).run Tryz.prog w = .ok (.func (.func 276) #[] #[]) w := by kernel_rfl
theorem qu_ix1 (w : World) : (Instr.index 312 (.agg quA) (.int .i64 1)).run Tryz.prog w = .ok (.func (.func 277) #[] #[]) w := by kernel_rfl
theorem qu_ix2 (w : World) : (Instr.index 312 (.agg quA) (.int .i64 2)).run Tryz.prog w = .ok (.func (.func 278) #[] #[]) w := by kernel_rfl
theorem qu_ix3 (w : World) : (Instr.index 312 (.agg quA) (.int .i64 3)).run Tryz.prog w = .ok (.func (.func 279) #[] #[]) w := by kernel_rfl
theorem keep2 {w w' : World} {g i j : Nat} {u v : Value} (c : w.cell? ⟨g, i, none⟩ = some u) (d : w.cell? ⟨g, j, none⟩ = some v) (hg : g < w.heap.size) (hb : Below w.heap.size w w') :
    (w'.cell? ⟨g, i, none⟩ = some u ∧ w'.cell? ⟨g, j, none⟩ = some v) ∧ Below w.heap.size w w' := ⟨⟨(hb.cell (p := ⟨g, i, none⟩) hg).trans c, (hb.cell (p := ⟨g, j, none⟩) hg).trans d⟩, hb⟩
set_option maxRecDepth 100000 in
set_option maxHeartbeats 8000000 in
theorem tfrom_any (q a b x y d : Int) (g : Nat) (w : World) (hK : Bk w g 281 #[.int .i64 q, .int .i64 a, .int .i64 b]) (hq : 0 ≤ q ∧ q ≤ 7) (ha : 1 ≤ a ∧ a ≤ 32768) (hb : 1 ≤ b ∧ b ≤ 32768) (hx : -1048576 ≤ x ∧ x ≤ 1048576) (hy : -1048576 ≤ y ∧ y ≤ 1048576) (hd : 1 ≤ d ∧ d ≤ 16) :
    Calls Tryz.prog 239 #[.pointer (some ⟨g, 0, none⟩), .int .i64 x, .int .i64 y, .int .i64 d] w fun e w' => e = .returned (.tuple #[.int .i64 (tuU q ((a - 1) * d) ((b - 1) * d) x y), .int .i64 (tuV q ((a - 1) * d) ((b - 1) * d) x y)]) ∧ Below w.heap.size w w' := by
  have hb0 := Below.refl w.heap.size w
  have m1 := mulbd (a := a - 1) (b := d) (A := 32768) (B := 16) (by omega) (by omega) (by omega) (by omega)
  have m2 := mulbd (a := b - 1) (b := d) (A := 32768) (B := 16) (by omega) (by omega) (by omega) (by omega)
  have e1 : IntKind.i64.wrap (a - 1) = a - 1 := IntWalk.i64_in _ ⟨by omega, by omega⟩
  have e2 : IntKind.i64.wrap (b - 1) = b - 1 := IntWalk.i64_in _ ⟨by omega, by omega⟩
  have e3 : IntKind.i64.wrap ((a - 1) * d) = (a - 1) * d := IntWalk.i64_in _ ⟨by omega, by omega⟩
  have e4 : IntKind.i64.wrap ((b - 1) * d) = (b - 1) * d := IntWalk.i64_in _ ⟨by omega, by omega⟩
  obtain ⟨W, hW⟩ : ∃ W, (a - 1) * d = W := ⟨_, rfl⟩
  obtain ⟨H, hH⟩ : ∃ H, (b - 1) * d = H := ⟨_, rfl⟩
  replace e3 := e3.trans hW
  replace e4 := e4.trans hH
  rw [hW] at m1 ⊢
  rw [hH] at m2 ⊢
  have hWn : Nr W := by unfold Nr; omega
  have hF0 := fun w' => pnone_any x y W H w' (by unfold Nr; omega) (by unfold Nr; omega) (by unfold Nr; omega) (by unfold Nr; omega)
  have hF1 := fun w' => ponce_any x y W H w' (by unfold Nr; omega) (by unfold Nr; omega) (by unfold Nr; omega) (by unfold Nr; omega)
  have hF2 := fun w' => ptwice_any x y W H w' (by unfold Nr; omega) (by unfold Nr; omega) (by unfold Nr; omega) (by unfold Nr; omega)
  have hF3 := fun w' => pthrice_any x y W H w' (by unfold Nr; omega) (by unfold Nr; omega) (by unfold Nr; omega) (by unfold Nr; omega)
  have hQ := fun w' => quarters_any w'
  clear hW hH ha hb m1 m2
  obtain ⟨c0, c1, c2⟩ := hK.cell3
  go_enter Tryz.func239, Tryz.ntmps239
  go_wp2_with fail
  have hlt := hK.lt
  go_region_held3 (fun w' => (w'.cell? ⟨g, 1, none⟩ = some (.int .i64 a) ∧ w'.cell? ⟨g, 2, none⟩ = some (.int .i64 b)) ∧ Below w.heap.size w w')
    ((refine keep2 c1 c2 hlt ?_; go_grown))
    (fail)
  rename_i hHeld
  clear hHeld
  have hL := ((Lie.start w).alloc (plA x y W H) 310).drew
  have hG := (hK.alloc (.cells (plA x y W H) 310)).drew
  have hbw := hL.bel

  have kp : Bk _ w.heap.size 310 (plA x y W H) := hL.k 0 (by simp)
  generalize hpl : w.heap.size = gp at *
  generalize (w.alloc (.cells (plA x y W H) 310)).drew = w1 at *
  clear e1 e2 e3 e4 c0 c1 c2 hlt hK hL hb0
  obtain ⟨c0, c1, c2⟩ := hG.cell3
  have hq8 : q = 0 ∨ q = 1 ∨ q = 2 ∨ q = 3 ∨ q = 4 ∨ q = 5 ∨ q = 6 ∨ q = 7 := by omega
  clear hq
  rcases hq8 with rfl | rfl | rfl | rfl | rfl | rfl | rfl | rfl
  all_goals
    have k0 := fun (n : Nat) (os : Array Obj) => cell_regrown c0 n os
    have i0 := qu_ix0
    have i1 := qu_ix1
    have i2 := qu_ix2
    have i3 := qu_ix3
    go_wp2_with fail
    refine wp_region_quiet_below (by kernel_rfl) (by kernel_rfl) ?_
    repeat (first
      | (refine wpQuiet_load rfl _ _ rfl kp rfl Tryz.underlying310 rfl (by kernel_rfl) ?_; simp only [Act.put, List.setIfInBounds_toArray, List.set_cons_zero, List.set_cons_succ])
      | go_big_quiet_step ((first | with_reducible exact quiet_below (hQ _) | with_reducible exact quiet_below (hF0 _) | with_reducible exact quiet_below (hF1 _) | with_reducible exact quiet_below (hF2 _) | with_reducible exact quiet_below (hF3 _)))
      | quiet_step ((first | with_reducible exact quiet_below (hQ _) | with_reducible exact quiet_below (hF0 _) | with_reducible exact quiet_below (hF1 _) | with_reducible exact quiet_below (hF2 _) | with_reducible exact quiet_below (hF3 _))))
    refine wpQuiet_nil ?_
    intro _ hw'
    obtain ⟨⟨d9, os⟩, hw''⟩ := hw'
    subst hw''
    have hbx := below_regrown w1 d9 os
    generalize Go.Sort.grow (redrawn w1 d9) os = wx at *
    have hbz : Below w.heap.size w wx := by rw [hpl]; exact hbw.trans (hbx.mono (by rw [← hpl]; exact hbw.size))
    replace kp := kp.nx hbx
    replace hG := hG.nx hbx
    clear k0 i0 i1 i2 i3 c0 c1 c2 hF0 hF1 hF2 hF3 hQ hbw hbx hpl
    obtain ⟨c0, c1, c2⟩ := hG.cell3
    obtain ⟨p0, p1, p2, p3⟩ := kp.cell4
    unfold Nr at hWn
    obtain ⟨n0, n1⟩ := hWn
    go_wp2_with fail
    go_returns
    exact ⟨ret_t2 (by simp [tuU, tu0]) (by simp [tuV]), hbz⟩
def tuPx (l : List Int) (px py d : Int) : Int := tuU (cf l 0) ((cf l 1 - 1) * d) ((cf l 2 - 1) * d) px py
def tuPy (l : List Int) (px py d : Int) : Int := tuV (cf l 0) ((cf l 1 - 1) * d) ((cf l 2 - 1) * d) px py
theorem tuP_bd {l : List Int} {px py d : Int} (h : TuOk l) (hp : rightH px py d = true) : (-4194304 ≤ tuPx l px py d ∧ tuPx l px py d ≤ 4194304) ∧ (-4194304 ≤ tuPy l px py d ∧ tuPy l px py d ≤ 4194304) := by
  have hp := rightH_iff.1 hp
  have h1 := h.w
  have h2 := h.h
  have m1 := mulbd (a := cf l 1 - 1) (b := d) (A := 32768) (B := 16) (by omega) (by omega) (by omega) (by omega)
  have m2 := mulbd (a := cf l 2 - 1) (b := d) (A := 32768) (B := 16) (by omega) (by omega) (by omega) (by omega)
  unfold tuPx tuPy tuU tuV tu0
  generalize (cf l 1 - 1) * d = W at *
  generalize (cf l 2 - 1) * d = H at *
  constructor
  · split <;> (split <;> (try split) <;> (try split) <;> omega)
  · split <;> (try split) <;> (try split) <;> omega
end Go.Proofs.YtlbiiljncacdoaaGreat
