/- Several texts in one: turn: where a place comes from. turn: At; and the reference's turn. xform: kinds and their names. xform: the kind of a name. -/
import Derived.Test.YtlbiiljncacdoaaGreatK4
import Derived.Deep.RegionHeld3
import Derived.Test.YtlbiiljncacdoaaGreatLie
section
set_option linter.unusedVariables false
namespace Go.Proofs.YtlbiiljncacdoaaGreat
open Go.RowKit
abbrev plV (x y W H : Int) : Value := .agg #[.int .i64 x, .int .i64 y, .int .i64 W, .int .i64 H]
abbrev plA (x y W H : Int) : Array Value := #[.int .i64 x, .int .i64 y, .int .i64 W, .int .i64 H]
/-- near enough -/
def Nr (x : Int) : Prop := -1099511627776 ≤ x ∧ x ≤ 1099511627776
set_option maxHeartbeats 1000000 in
theorem pnone_any (x y W H : Int) (w : World) (h1 : Nr x) (h2 : Nr y) (h3 : Nr W) (h4 : Nr H) : Calls Tryz.prog 276 #[plV x y W H] w fun e w' => e = .returned (.tuple #[.int .i64 x, .int .i64 y]) ∧ Below w.heap.size w w' := by
  have hb := (Below.refl w.heap.size w).alloc (Nat.le_refl _) (.cells (plA x y W H) 310)
  unfold Nr at *
  go_enter Tryz.func276, Tryz.ntmps276
  go_wp2_with fail
  go_quiet (fail)
  go_wp2_with fail
  go_returns
  exact ⟨rfl, below_drewN hb _⟩
set_option maxHeartbeats 1000000 in
theorem ponce_any (x y W H : Int) (w : World) (h1 : Nr x) (h2 : Nr y) (h3 : Nr W) (h4 : Nr H) : Calls Tryz.prog 277 #[plV x y W H] w fun e w' => e = .returned (.tuple #[.int .i64 y, .int .i64 (H - x)]) ∧ Below w.heap.size w w' := by
  have hb := (Below.refl w.heap.size w).alloc (Nat.le_refl _) (.cells (plA x y W H) 310)
  unfold Nr at *
  have e1 : IntKind.i64.wrap (H - x) = H - x := IntWalk.i64_in _ ⟨by omega, by omega⟩
  go_enter Tryz.func277, Tryz.ntmps277
  go_wp2_with fail
  go_quiet (fail)
  go_wp2_with fail
  go_returns
  exact ⟨rfl, below_drewN hb _⟩
set_option maxHeartbeats 1000000 in
theorem ptwice_any (x y W H : Int) (w : World) (h1 : Nr x) (h2 : Nr y) (h3 : Nr W) (h4 : Nr H) : Calls Tryz.prog 278 #[plV x y W H] w fun e w' => e = .returned (.tuple #[.int .i64 (W - x), .int .i64 (H - y)]) ∧ Below w.heap.size w w' := by
  have hb := (Below.refl w.heap.size w).alloc (Nat.le_refl _) (.cells (plA x y W H) 310)
  unfold Nr at *
  have e1 : IntKind.i64.wrap (W - x) = W - x := IntWalk.i64_in _ ⟨by omega, by omega⟩
  have e2 : IntKind.i64.wrap (H - y) = H - y := IntWalk.i64_in _ ⟨by omega, by omega⟩
  go_enter Tryz.func278, Tryz.ntmps278
  go_wp2_with fail
  go_quiet (fail)
  go_wp2_with fail
  go_returns
  exact ⟨rfl, below_drewN hb _⟩
set_option maxHeartbeats 1000000 in
theorem pthrice_any (x y W H : Int) (w : World) (h1 : Nr x) (h2 : Nr y) (h3 : Nr W) (h4 : Nr H) : Calls Tryz.prog 279 #[plV x y W H] w fun e w' => e = .returned (.tuple #[.int .i64 (W - y), .int .i64 x]) ∧ Below w.heap.size w w' := by
  have hb := (Below.refl w.heap.size w).alloc (Nat.le_refl _) (.cells (plA x y W H) 310)
  unfold Nr at *
  have e1 : IntKind.i64.wrap (W - y) = W - y := IntWalk.i64_in _ ⟨by omega, by omega⟩
  go_enter Tryz.func279, Tryz.ntmps279
  go_wp2_with fail
  go_quiet (fail)
  go_wp2_with fail
  go_returns
  exact ⟨rfl, below_drewN hb _⟩
theorem qu_ix0 (w : World) : (Instr.index 312 (.agg quA) (.int .i64 0)).run Tryz.prog w = .ok (.func (.func 276) #[] #[]) w := by kernel_rfl
theorem qu_ix1 (w : World) : (Instr.index 312 (.agg quA) (.int .i64 1)).run Tryz.prog w = .ok (.func (.func 277) #[] #[]) w := by kernel_rfl
theorem qu_ix2 (w : World) : (Instr.index 312 (.agg quA) (.int .i64 2)).run Tryz.prog w = .ok (.func (.func 278) #[] #[]) w := by kernel_rfl
theorem qu_ix3 (w : World) : (Instr.index 312 (.agg quA) (.int .i64 3)).run Tryz.prog w = .ok (.func (.func 279) #[] #[]) w := by kernel_rfl
theorem keep2 {w w' : World} {g i j : Nat} {u v : Value} (c : w.cell? ⟨g, i, none⟩ = some u) (d : w.cell? ⟨g, j, none⟩ = some v) (hg : g < w.heap.size) (hb : Below w.heap.size w w') :
    (w'.cell? ⟨g, i, none⟩ = some u ∧ w'.cell? ⟨g, j, none⟩ = some v) ∧ Below w.heap.size w w' := ⟨⟨(hb.cell (p := ⟨g, i, none⟩) hg).trans c, (hb.cell (p := ⟨g, j, none⟩) hg).trans d⟩, hb⟩
set_option maxRecDepth 100000 in
set_option maxHeartbeats 8000000 in
theorem tfrom_any (q a b x y d : Int) (g : Nat) (w : World) (hK : Bk w g 281 #[.int .i64 q, .int .i64 a, .int .i64 b]) (hq : 0 ≤ q ∧ q ≤ 7) (ha : 1 ≤ a ∧ a ≤ 32768) (hb : 1 ≤ b ∧ b ≤ 32768) (hx : -1048576 ≤ x ∧ x ≤ 1048576) (hy : -1048576 ≤ y ∧ y ≤ 1048576) (hd : 1 ≤ d ∧ d ≤ 16) :
    Calls Tryz.prog 239 #[.pointer (some ⟨g, 0, none⟩), .int .i64 x, .int .i64 y, .int .i64 d] w fun e w' => e = .returned (.tuple #[.int .i64 (tuU q ((a - 1) * d) ((b - 1) * d) x y), .int .i64 (tuV q ((a - 1) * d) ((b - 1) * d) x y)]) ∧ Below w.heap.size w w' := by
  have hb0 := Below.refl w.heap.size w
  have m1 := mulbd (a := a - 1) (b := d) (A := 32768) (B := 16) (by omega) (by omega) (by omega) (by omega)
  have m2 := mulbd (a := b - 1) (b := d) (A := 32768) (B := 16) (by omega) (by omega) (by omega) (by omega)
  have e1 : IntKind.i64.wrap (a - 1) = a - 1 := IntWalk.i64_in _ ⟨by omega, by omega⟩
  have e2 : IntKind.i64.wrap (b - 1) = b - 1 := IntWalk.i64_in _ ⟨by omega, by omega⟩
  have e3 : IntKind.i64.wrap ((a - 1) * d) = (a - 1) * d := IntWalk.i64_in _ ⟨by omega, by omega⟩
  have e4 : IntKind.i64.wrap ((b - 1) * d) = (b - 1) * d := IntWalk.i64_in _ ⟨by omega, by omega⟩
  obtain ⟨W, hW⟩ : ∃ W, (a - 1) * d = W := ⟨_, rfl⟩
  obtain ⟨H, hH⟩ : ∃ H, (b - 1) * d = H := ⟨_, rfl⟩
  replace e3 := e3.trans hW
  replace e4 := e4.trans hH
  rw [hW] at m1 ⊢
  rw [hH] at m2 ⊢
  have hWn : Nr W := by unfold Nr; omega
  have hF0 := fun w' => pnone_any x y W H w' (by unfold Nr; omega) (by unfold Nr; omega) (by unfold Nr; omega) (by unfold Nr; omega)
  have hF1 := fun w' => ponce_any x y W H w' (by unfold Nr; omega) (by unfold Nr; omega) (by unfold Nr; omega) (by unfold Nr; omega)
  have hF2 := fun w' => ptwice_any x y W H w' (by unfold Nr; omega) (by unfold Nr; omega) (by unfold Nr; omega) (by unfold Nr; omega)
  have hF3 := fun w' => pthrice_any x y W H w' (by unfold Nr; omega) (by unfold Nr; omega) (by unfold Nr; omega) (by unfold Nr; omega)
  have hQ := fun w' => quarters_any w'
  clear hW hH ha hb m1 m2
  obtain ⟨c0, c1, c2⟩ := hK.cell3
  go_enter Tryz.func239, Tryz.ntmps239
  go_wp2_with fail
  have hlt := hK.lt
  go_region_held3 (fun w' => (w'.cell? ⟨g, 1, none⟩ = some (.int .i64 a) ∧ w'.cell? ⟨g, 2, none⟩ = some (.int .i64 b)) ∧ Below w.heap.size w w')
    ((refine keep2 c1 c2 hlt ?_; go_grown))
    (fail)
  rename_i hHeld
  clear hHeld
  have hL := ((Lie.start w).alloc (plA x y W H) 310).drew
  have hG := (hK.alloc (.cells (plA x y W H) 310)).drew
  have hbw := hL.bel

  have kp : Bk _ w.heap.size 310 (plA x y W H) := hL.k 0 (by simp)
  generalize hpl : w.heap.size = gp at *
  generalize (w.alloc (.cells (plA x y W H) 310)).drew = w1 at *
  clear e1 e2 e3 e4 c0 c1 c2 hlt hK hL hb0
  obtain ⟨c0, c1, c2⟩ := hG.cell3
  have hq8 : q = 0 ∨ q = 1 ∨ q = 2 ∨ q = 3 ∨ q = 4 ∨ q = 5 ∨ q = 6 ∨ q = 7 := by omega
  clear hq
  rcases hq8 with rfl | rfl | rfl | rfl | rfl | rfl | rfl | rfl
  all_goals
    have k0 := fun (n : Nat) (os : Array Obj) => cell_regrown c0 n os
    have i0 := qu_ix0
    have i1 := qu_ix1
    have i2 := qu_ix2
    have i3 := qu_ix3
    go_wp2_with fail
    refine wp_region_quiet_below (by kernel_rfl) (by kernel_rfl) ?_
    repeat (first
      | (refine wpQuiet_load rfl _ _ rfl kp rfl Tryz.underlying310 rfl (by kernel_rfl) ?_; simp only [Act.put, List.setIfInBounds_toArray, List.set_cons_zero, List.set_cons_succ])
      | go_big_quiet_step ((first | with_reducible exact quiet_below (hQ _) | with_reducible exact quiet_below (hF0 _) | with_reducible exact quiet_below (hF1 _) | with_reducible exact quiet_below (hF2 _) | with_reducible exact quiet_below (hF3 _)))
      | quiet_step ((first | with_reducible exact quiet_below (hQ _) | with_reducible exact quiet_below (hF0 _) | with_reducible exact quiet_below (hF1 _) | with_reducible exact quiet_below (hF2 _) | with_reducible exact quiet_below (hF3 _))))
    refine wpQuiet_nil ?_
    intro _ hw'
    obtain ⟨⟨d9, os⟩, hw''⟩ := hw'
    subst hw''
    have hbx := below_regrown w1 d9 os
    generalize Go.Sort.grow (redrawn w1 d9) os = wx at *
    have hbz : Below w.heap.size w wx := by rw [hpl]; exact hbw.trans (hbx.mono (by rw [← hpl]; exact hbw.size))
    replace kp := kp.nx hbx
    replace hG := hG.nx hbx
    clear k0 i0 i1 i2 i3 c0 c1 c2 hF0 hF1 hF2 hF3 hQ hbw hbx hpl
    obtain ⟨c0, c1, c2⟩ := hG.cell3
    obtain ⟨p0, p1, p2, p3⟩ := kp.cell4
    unfold Nr at hWn
    obtain ⟨n0, n1⟩ := hWn
    go_wp2_with fail
    go_returns
    exact ⟨ret_t2 (by simp [tuU, tu0]) (by simp [tuV]), hbz⟩
def tuPx (l : List Int) (px py d : Int) : Int := tuU (cf l 0) ((cf l 1 - 1) * d) ((cf l 2 - 1) * d) px py
def tuPy (l : List Int) (px py d : Int) : Int := tuV (cf l 0) ((cf l 1 - 1) * d) ((cf l 2 - 1) * d) px py
theorem tuP_bd {l : List Int} {px py d : Int} (h : TuOk l) (hp : rightH px py d = true) : (-4194304 ≤ tuPx l px py d ∧ tuPx l px py d ≤ 4194304) ∧ (-4194304 ≤ tuPy l px py d ∧ tuPy l px py d ≤ 4194304) := by
  have hp := rightH_iff.1 hp
  have h1 := h.w
  have h2 := h.h
  have m1 := mulbd (a := cf l 1 - 1) (b := d) (A := 32768) (B := 16) (by omega) (by omega) (by omega) (by omega)
  have m2 := mulbd (a := cf l 2 - 1) (b := d) (A := 32768) (B := 16) (by omega) (by omega) (by omega) (by omega)
  unfold tuPx tuPy tuU tuV tu0
  generalize (cf l 1 - 1) * d = W at *
  generalize (cf l 2 - 1) * d = H at *
  constructor
  · split <;> (split <;> (try split) <;> (try split) <;> omega)
  · split <;> (try split) <;> (try split) <;> omega
end Go.Proofs.YtlbiiljncacdoaaGreat
end
section
set_option linter.unusedVariables false
namespace Go.Proofs.YtlbiiljncacdoaaGreat
open Go.RowKit
set_option maxRecDepth 100000 in
set_option maxHeartbeats 8000000 in
theorem tat_nil (x y d : Int) (w : World) : Calls Tryz.prog 187 #[.pointer none, .int .i64 x, .int .i64 y, .int .i64 d] w fun e w' =>
    e = .returned (.tuple #[.int .i64 0, .int .i64 0, .int .i64 10]) ∧ w = w' := by
  go_enter Tryz.func187, Tryz.ntmps187
  go_wp2_with fail
  go_returns
  exact ⟨rfl, rfl⟩
theorem right_cases2 (px py d : Int) : (rightH px py d = true ∧ (-1048576 ≤ px ∧ px ≤ 1048576) ∧ (-1048576 ≤ py ∧ py ≤ 1048576) ∧ 1 ≤ d ∧ d ≤ 16) ∨ (rightH px py d = false ∧ ((px < -1048576) ∨ (-1048576 ≤ px ∧ 1048576 < px) ∨ (-1048576 ≤ px ∧ px ≤ 1048576 ∧ py < -1048576) ∨ (-1048576 ≤ px ∧ px ≤ 1048576 ∧ -1048576 ≤ py ∧ 1048576 < py) ∨ (-1048576 ≤ px ∧ px ≤ 1048576 ∧ -1048576 ≤ py ∧ py ≤ 1048576 ∧ d < 1) ∨ (-1048576 ≤ px ∧ px ≤ 1048576 ∧ -1048576 ≤ py ∧ py ≤ 1048576 ∧ 1 ≤ d ∧ 16 < d))) := by
  cases h : rightH px py d
  · right
    have h' : ¬ rightH px py d = true := by rw [h]; simp
    rw [rightH_iff] at h'
    exact ⟨rfl, by omega⟩
  · left
    exact ⟨rfl, rightH_iff.1 h⟩
def tuAns (l : List Int) (px py d : Int) : Value := if rightH px py d = true then .tuple #[.int .i64 (65536 * tuPx l px py d / d), .int .i64 (65536 * tuPy l px py d / d), .int .i64 0] else .tuple #[.int .i64 0, .int .i64 0, .int .i64 11]
set_option maxRecDepth 100000 in
set_option maxHeartbeats 8000000 in
theorem tat_any (l : List Int) (g : Nat) (px py d : Int) (w : World) (hK : Bk w g 281 (tuA l)) (h : TuOk l) :
    Calls Tryz.prog 187 #[.pointer (some ⟨g, 0, none⟩), .int .i64 px, .int .i64 py, .int .i64 d] w fun e w' =>
      e = .returned (tuAns l px py d) ∧ Below w.heap.size w w' := by
  have hb0 := Below.refl w.heap.size w
  rcases right_cases2 px py d with ⟨hp, ⟨a0, a1⟩, ⟨a2, a3⟩, a4, a5⟩ | ⟨hp, hc⟩
  · have HA : Hid (tuAns l px py d = .tuple #[.int .i64 (65536 * tuPx l px py d / d), .int .i64 (65536 * tuPy l px py d / d), .int .i64 0]) := by show _ = _; unfold tuAns; rw [if_pos hp]
    obtain ⟨⟨b0, b1⟩, b2, b3⟩ := tuP_bd h hp
    have hF := tfrom_any (cf l 0) (cf l 1) (cf l 2) px py d g w hK h.q h.w h.h ⟨a0, a1⟩ ⟨a2, a3⟩ ⟨a4, a5⟩
    simp only [← tuPx.eq_1, ← tuPy.eq_1] at hF
    clear hp h hK
    generalize tuPx l px py d = U at *
    generalize tuPy l px py d = V at *
    have hQ1 := fun w' => qfloor_any (65536 * U) d w' a4 (by omega) ⟨by omega, by omega⟩
    have hQ2 := fun w' => qfloor_any (65536 * V) d w' a4 (by omega) ⟨by omega, by omega⟩
    go_enter Tryz.func187, Tryz.ntmps187
    go_wp2_with fail
    refine hF.mono ?_
    rintro e w1 ⟨rfl, hb1⟩
    go_wp2_with fail
    refine (hQ1 _).mono ?_
    rintro e w2 ⟨rfl, rfl⟩
    go_wp2_with fail
    refine (hQ2 _).mono ?_
    rintro e w2 ⟨rfl, rfl⟩
    go_wp2_with fail
    go_returns
    exact ⟨by rw [HA.out]; rfl, hb1⟩
  · have HA : Hid (tuAns l px py d = .tuple #[.int .i64 0, .int .i64 0, .int .i64 11]) := by show _ = _; unfold tuAns; rw [if_neg (by rw [hp]; simp)]
    clear hp h
    rcases hc with h0 | ⟨h0, h1⟩ | ⟨h0, h1, h2⟩ | ⟨h0, h1, h2, h3⟩ | ⟨h0, h1, h2, h3, h4⟩ | ⟨h0, h1, h2, h3, h4, h5⟩
    all_goals
      go_enter Tryz.func187, Tryz.ntmps187
      go_wp2_with fail
      go_returns
      exact ⟨by rw [HA.out]; rfl, hb0⟩
set_option maxRecDepth 100000 in
set_option maxHeartbeats 8000000 in
theorem rfrom23 (l : List Int) (A : Option Addr) (cp : Nat) (x y d : Int) (w : World) {B : Nat} (h : TuOk l) (hr : Rd w B A (l.map (Value.int .i64))) (hx : -1048576 ≤ x ∧ x ≤ 1048576) (hy : -1048576 ≤ y ∧ y ≤ 1048576) (hd : 1 ≤ d ∧ d ≤ 16) :
    Calls Tryz.prog 104 #[.slice A 3 cp, .int .i64 x, .int .i64 y, .int .i64 d] w fun e w' => e = .returned (.tuple #[.int .i64 (tuPx l x y d), .int .i64 (tuPy l x y d)]) ∧ w = w' := by
  obtain ⟨b, o, rfl, hb, c0, hc⟩ := lget h.len (by decide) hr
  have c1 := hc 1 (by decide)
  have c2 := hc 2 (by decide)
  have hq := h.q
  have ha := h.w
  have hb := h.h
  unfold tuPx tuPy
  clear hc hr h
  generalize cf l 0 = q at *
  generalize cf l 1 = a at *
  generalize cf l 2 = b' at *
  have m1 := mulbd (a := a - 1) (b := d) (A := 32768) (B := 16) (by omega) (by omega) (by omega) (by omega)
  have m2 := mulbd (a := b' - 1) (b := d) (A := 32768) (B := 16) (by omega) (by omega) (by omega) (by omega)
  obtain ⟨m10, m11⟩ := m1
  obtain ⟨m20, m21⟩ := m2
  have hq8 : q = 0 ∨ q = 1 ∨ q = 2 ∨ q = 3 ∨ q = 4 ∨ q = 5 ∨ q = 6 ∨ q = 7 := by omega
  clear hq
  rcases hq8 with rfl | rfl | rfl | rfl | rfl | rfl | rfl | rfl
  all_goals
    go_enter Tryz.func104, Tryz.ntmps104
    go_wp2_with fail
    go_returns
    exact ⟨ret_t2 (by simp [tuU, tu0]) (by simp [tuV]), rfl⟩
set_option maxHeartbeats 4000000 in
theorem rat23 (l : List Int) (A : Option Addr) (cp : Nat) (x y d : Int) (w : World) {B : Nat} (h : TuOk l) (hr : Rd w B A (l.map (Value.int .i64))) (hp : rightH x y d = true) :
    Calls Tryz.prog 87 #[.slice A 3 cp, .int .i64 x, .int .i64 y, .int .i64 d] w fun e w' => e = .returned (.tuple #[.int .i64 (65536 * tuPx l x y d / d), .int .i64 (65536 * tuPy l x y d / d)]) ∧ w = w' := by
  obtain ⟨⟨b0, b1⟩, b2, b3⟩ := tuP_bd h hp
  obtain ⟨a0, a1, a2, a3⟩ := rightH_iff.1 hp
  have hF := rfrom23 l A cp x y d w h hr a0 a1 ⟨a2, a3⟩
  clear hp h hr
  generalize tuPx l x y d = U at *
  generalize tuPy l x y d = V at *
  have hD1 := fun w' => rdown_any (65536 * U) d w' a2 ⟨by omega, by omega⟩ (by omega)
  have hD2 := fun w' => rdown_any (65536 * V) d w' a2 ⟨by omega, by omega⟩ (by omega)
  go_enter Tryz.func87, Tryz.ntmps87
  go_wp2_with fail
  refine hF.mono ?_
  rintro e w1 ⟨rfl, rfl⟩
  go_wp2_with fail
  refine (hD1 _).mono ?_
  rintro e w2 ⟨rfl, rfl⟩
  go_wp2_with fail
  refine (hD2 _).mono ?_
  rintro e w2 ⟨rfl, rfl⟩
  go_wp2_with fail
  go_returns
  exact ⟨rfl, rfl⟩
end Go.Proofs.YtlbiiljncacdoaaGreat
end
section
set_option linter.unusedVariables false
namespace Go.Proofs.YtlbiiljncacdoaaGreat
open Go.RowKit
def sAffine : ByteArray := ⟨#[97, 102, 102, 105, 110, 101]⟩
def sHomog : ByteArray := ⟨#[104, 111, 109, 111, 103]⟩
def sLens : ByteArray := ⟨#[108, 101, 110, 115]⟩
def sMesh : ByteArray := ⟨#[109, 101, 115, 104]⟩
def sShear : ByteArray := ⟨#[115, 104, 101, 97, 114]⟩
def sTurn : ByteArray := ⟨#[116, 117, 114, 110]⟩
abbrev kiA : Array Value := #[.string ⟨#[]⟩, .int .i64 0, .nilFunc,
  .string sAffine, .int .i64 6, .func (.func 127) #[] #[],
  .string sHomog, .int .i64 9, .func (.func 128) #[] #[],
  .string sLens, .int .i64 7, .func (.func 129) #[] #[],
  .string sMesh, .int .i64 0, .func (.func 130) #[] #[],
  .string sShear, .int .i64 4, .func (.func 131) #[] #[],
  .string sTurn, .int .i64 3, .func (.func 132) #[] #[]]
set_option maxRecDepth 100000 in
theorem kinds_any (w : World) : Calls Tryz.prog 71 #[] w fun e w' => e = .returned (.slice (some ⟨w.heap.size, 0, none⟩) 7 7) ∧ w.alloc (.cells kiA 127) = w' := by
  go_enter Tryz.func71, Tryz.ntmps71
  go_wp2_with fail
  go_returns
  exact ⟨rfl, rfl⟩
theorem xis_any (k : Int) (w : World) : Calls Tryz.prog 73 #[.int .i64 k] w fun e w' => e = .returned (.bool (decide (1 ≤ k ∧ k ≤ 6))) ∧ w = w' := by
  by_cases h : 1 ≤ k
  all_goals
    go_enter Tryz.func73, Tryz.ntmps73
    go_wp2
    go_returns
    exact ⟨ret_bool (by simp <;> omega), rfl⟩
def xnm (k : Int) : ByteArray := if k = 1 then sAffine else if k = 2 then sHomog else if k = 3 then sLens else if k = 4 then sMesh else if k = 5 then sShear else if k = 6 then sTurn else ⟨#[]⟩
def xct (k : Int) : Int := if k = 1 then 6 else if k = 2 then 9 else if k = 3 then 7 else if k = 4 then 0 else if k = 5 then 4 else if k = 6 then 3 else 0
theorem six {k : Int} (h : 1 ≤ k ∧ k ≤ 6) : k = 1 ∨ k = 2 ∨ k = 3 ∨ k = 4 ∨ k = 5 ∨ k = 6 := by omega
set_option maxRecDepth 100000 in
set_option maxHeartbeats 4000000 in
theorem xname_any (k : Int) (w : World) : Calls Tryz.prog 17 #[.int .i64 k] w fun e w' => e = .returned (.string (xnm k)) ∧ Below w.heap.size w w' := by
  have hb := (Below.refl w.heap.size w).alloc (Nat.le_refl _) (.cells kiA 127)
  by_cases h : 1 ≤ k ∧ k ≤ 6
  · have hd : decide (1 ≤ k ∧ k ≤ 6) = true := decide_eq_true h
    rcases six h with rfl | rfl | rfl | rfl | rfl | rfl
    all_goals
      clear h
      go_enter Tryz.func17, Tryz.ntmps17
      go_wp2_with (first
        | (go_at_call 73; (with_reducible refine (xis_any _ _).mono ?_); rintro e w' ⟨rfl, rfl⟩; rw [hd])
        | (go_at_call 71; (with_reducible refine (kinds_any _).mono ?_); rintro e w1 ⟨rfl, rfl⟩))
      go_returns
      exact ⟨rfl, hb⟩
  · have hd : decide (1 ≤ k ∧ k ≤ 6) = false := decide_eq_false h
    have HN : Hid (xnm k = ⟨#[]⟩) := by show _ = _; unfold xnm; rw [if_neg (by omega), if_neg (by omega), if_neg (by omega), if_neg (by omega), if_neg (by omega), if_neg (by omega)]
    have hb0 := Below.refl w.heap.size w
    clear h
    go_enter Tryz.func17, Tryz.ntmps17
    go_wp2_with (go_at_call 73; (with_reducible refine (xis_any _ _).mono ?_); rintro e w' ⟨rfl, rfl⟩; rw [hd])
    go_returns
    exact ⟨by rw [HN.out]; rfl, hb0⟩
set_option maxRecDepth 100000 in
set_option maxHeartbeats 4000000 in
theorem xcount_any (k : Int) (w : World) : Calls Tryz.prog 18 #[.int .i64 k] w fun e w' => e = .returned (.int .i64 (xct k)) ∧ Below w.heap.size w w' := by
  have hb := (Below.refl w.heap.size w).alloc (Nat.le_refl _) (.cells kiA 127)
  by_cases h : 1 ≤ k ∧ k ≤ 6
  · have hd : decide (1 ≤ k ∧ k ≤ 6) = true := decide_eq_true h
    rcases six h with rfl | rfl | rfl | rfl | rfl | rfl
    all_goals
      clear h
      go_enter Tryz.func18, Tryz.ntmps18
      go_wp2_with (first
        | (go_at_call 73; (with_reducible refine (xis_any _ _).mono ?_); rintro e w' ⟨rfl, rfl⟩; rw [hd])
        | (go_at_call 71; (with_reducible refine (kinds_any _).mono ?_); rintro e w1 ⟨rfl, rfl⟩))
      go_returns
      exact ⟨rfl, hb⟩
  · have hd : decide (1 ≤ k ∧ k ≤ 6) = false := decide_eq_false h
    have HN : Hid (xct k = 0) := by show _ = _; unfold xct; rw [if_neg (by omega), if_neg (by omega), if_neg (by omega), if_neg (by omega), if_neg (by omega), if_neg (by omega)]
    have hb0 := Below.refl w.heap.size w
    clear h
    go_enter Tryz.func18, Tryz.ntmps18
    go_wp2_with (go_at_call 73; (with_reducible refine (xis_any _ _).mono ?_); rintro e w' ⟨rfl, rfl⟩; rw [hd])
    go_returns
    exact ⟨by rw [HN.out]; rfl, hb0⟩
theorem not_six (k : Int) (h : ¬ (1 ≤ k ∧ k ≤ 6)) : k < 1 ∨ (1 ≤ k ∧ 6 < k) := by omega
set_option maxRecDepth 100000 in
set_option maxHeartbeats 4000000 in
theorem rxname_any (k : Int) (w : World) : Calls Tryz.prog 16 #[.int .i64 k] w fun e w' => e = .returned (.string (xnm k)) ∧ Below w.heap.size w w' := by
  have hb := (Below.refl w.heap.size w).alloc (Nat.le_refl _) (.cells #[.string sAffine, .string sHomog, .string sLens, .string sMesh, .string sShear, .string sTurn] 9)
  have hb0 := Below.refl w.heap.size w
  by_cases h : 1 ≤ k ∧ k ≤ 6
  · rcases six h with rfl | rfl | rfl | rfl | rfl | rfl
    all_goals
      clear h
      go_enter Tryz.func16, Tryz.ntmps16
      go_wp2_with fail
      go_returns
      exact ⟨rfl, hb⟩
  · have HN : Hid (xnm k = ⟨#[]⟩) := by show _ = _; unfold xnm; rw [if_neg (by omega), if_neg (by omega), if_neg (by omega), if_neg (by omega), if_neg (by omega), if_neg (by omega)]
    rcases not_six k h with h1 | ⟨h1, h2⟩
    all_goals
      clear h
      go_enter Tryz.func16, Tryz.ntmps16
      go_wp2_with fail
      go_returns
      exact ⟨by rw [HN.out]; rfl, hb0⟩
set_option maxRecDepth 100000 in
set_option maxHeartbeats 4000000 in
theorem rxcount_any (k : Int) (w : World) : Calls Tryz.prog 19 #[.int .i64 k] w fun e w' => e = .returned (.int .i64 (xct k)) ∧ Below w.heap.size w w' := by
  have hb := (Below.refl w.heap.size w).alloc (Nat.le_refl _) (.cells #[.int .i64 6, .int .i64 9, .int .i64 7, .int .i64 0, .int .i64 4, .int .i64 3] 3)
  have hb0 := Below.refl w.heap.size w
  by_cases h : 1 ≤ k ∧ k ≤ 6
  · rcases six h with rfl | rfl | rfl | rfl | rfl | rfl
    all_goals
      clear h
      go_enter Tryz.func19, Tryz.ntmps19
      go_wp2_with fail
      go_returns
      exact ⟨rfl, hb⟩
  · have HN : Hid (xct k = 0) := by show _ = _; unfold xct; rw [if_neg (by omega), if_neg (by omega), if_neg (by omega), if_neg (by omega), if_neg (by omega), if_neg (by omega)]
    rcases not_six k h with h1 | ⟨h1, h2⟩
    all_goals
      clear h
      go_enter Tryz.func19, Tryz.ntmps19
      go_wp2_with fail
      go_returns
      exact ⟨by rw [HN.out]; rfl, hb0⟩
theorem neq_func (F : Fn) (bs fr : Array Value) (w : World) : (binOp .neq 125 (.func F bs fr) .nilFunc).run Tryz.prog w = .ok (.bool true) w := by
  first | kernel_rfl | rfl
theorem neq_func0 (w : World) : (binOp .neq 125 .nilFunc .nilFunc).run Tryz.prog w = .ok (.bool false) w := by
  first | kernel_rfl | rfl
theorem eql_asked (F : Fn) (bs fr : Array Value) (w : World) : (binOp .eql 132 (.func F bs fr) .nilFunc).run Tryz.prog w = .ok (.bool false) w := by
  first | kernel_rfl | rfl
theorem eql_asked0 (w : World) : (binOp .eql 132 .nilFunc .nilFunc).run Tryz.prog w = .ok (.bool true) w := by
  first | kernel_rfl | rfl
end Go.Proofs.YtlbiiljncacdoaaGreat
end
section
set_option linter.unusedVariables false
namespace Go.Proofs.YtlbiiljncacdoaaGreat
open Go.RowKit
def eqS (x s : ByteArray) : Bool := x.toList == s.toList
set_option maxRecDepth 100000 in
theorem xn1_any (x s : ByteArray) (f : FuncId) (n : Int) (b : Nat) (w : World) (hb : b < w.heap.size) (hc : w.cell? ⟨b, 0, none⟩ = some (.string s)) :
    Calls Tryz.prog 72 #[.agg #[.string x, .int .i64 n, .func (.func f) #[] #[]], .pointer (some ⟨b, 0, none⟩)] w fun e w' => e = .returned (.bool (eqS x s)) ∧ Below w.heap.size w w' := by
  have hq0 := neq_func (.func f) #[] #[]
  go_enter Tryz.func72, Tryz.ntmps72
  go_wp2
  go_returns
  exact ⟨ret_bool rfl, by go_grown⟩
set_option maxRecDepth 100000 in
theorem xn0_any (x s : ByteArray) (n : Int) (b : Nat) (w : World) (hb : b < w.heap.size) (hc : w.cell? ⟨b, 0, none⟩ = some (.string s)) :
    Calls Tryz.prog 72 #[.agg #[.string x, .int .i64 n, .nilFunc], .pointer (some ⟨b, 0, none⟩)] w fun e w' => e = .returned (.bool false) ∧ Below w.heap.size w w' := by
  have hq0 := neq_func0
  go_enter Tryz.func72, Tryz.ntmps72
  go_wp2
  go_returns
  exact ⟨ret_bool rfl, by go_grown⟩
def idxK (s : ByteArray) : Int := if eqS sAffine s = true then 1 else if eqS sHomog s = true then 2 else if eqS sLens s = true then 3 else if eqS sMesh s = true then 4 else if eqS sShear s = true then 5 else if eqS sTurn s = true then 6 else -1
def nmK (k : Nat) : ByteArray := match k with | 1 => sAffine | 2 => sHomog | 3 => sLens | 4 => sMesh | 5 => sShear | 6 => sTurn | _ => ⟨#[]⟩
set_option maxRecDepth 100000 in
set_option maxHeartbeats 8000000 in
theorem xindex_any (s : ByteArray) (b g : Nat) (w : World) (hb : b < w.heap.size) (hc : w.cell? ⟨b, 0, none⟩ = some (.string s)) (hK : Bk w g 127 kiA) :
    Calls Tryz.prog 70 #[.slice (some ⟨g, 0, none⟩) 7 7, .func (.func 72) #[] #[.pointer (some ⟨b, 0, none⟩)]] w fun e w' => e = .returned (.int .i64 (idxK s)) ∧ Below w.heap.size w w' := by
  go_enter Tryz.func70, Tryz.ntmps70
  go_wp2_with fail
  go_loopw [8] (fun v wr => ∃ k : Nat, k ≤ 7 ∧ v = .int .i64 k ∧ Below w.heap.size w wr ∧ Hid (∀ i, 1 ≤ i → i < k → eqS (nmK i) s = false)) (fun v _ => 7 - (intOf v).toNat)
  case atStart => exact ⟨0, by omega, rfl, Below.refl _ _, by intro i h1 hi; omega⟩
  case round =>
    obtain ⟨k, hk, rfl, hbr, hall⟩ := hrel
    by_cases hlt : k < 7
    · have h4 : k = 0 ∨ k = 1 ∨ k = 2 ∨ k = 3 ∨ k = 4 ∨ k = 5 ∨ k = 6 := by omega
      have hKr := hK.nx hbr
      have hcr := (hbr.cell (p := ⟨b, 0, none⟩) hb).trans hc
      have hbr2 : b < wr.heap.size := Nat.lt_of_lt_of_le hb hbr.size
      have hcl := hKr.cell
      have c0 := hcl 0
      have c1 := hcl 1
      have c2 := hcl 2
      have c3 := hcl 3
      have c4 := hcl 4
      have c5 := hcl 5
      have c6 := hcl 6
      have c7 := hcl 7
      have c8 := hcl 8
      have c9 := hcl 9
      have c10 := hcl 10
      have c11 := hcl 11
      have c12 := hcl 12
      have c13 := hcl 13
      have c14 := hcl 14
      have c15 := hcl 15
      have c16 := hcl 16
      have c17 := hcl 17
      have c18 := hcl 18
      have c19 := hcl 19
      have c20 := hcl 20
      simp at c0 c1 c2 c3 c4 c5 c6 c7 c8 c9 c10 c11 c12 c13 c14 c15 c16 c17 c18 c19 c20
      clear hcl hc hK hKr
      rcases h4 with rfl | rfl | rfl | rfl | rfl | rfl | rfl
      · go_wp2_with (refine (xn0_any _ s _ b _ (by exact hbr2) (by exact hcr)).mono ?_; rintro e w1 ⟨rfl, hb1⟩)
        refine ⟨⟨1, by omega, rfl, hbr.trans (hb1.mono hbr.size), ?_⟩, by simp [intOf]⟩
        intro i h1 hi
        omega
      · cases he : eqS sAffine s
        · go_wp2_with (refine (xn1_any sAffine s _ _ b _ (by exact hbr2) (by exact hcr)).mono ?_; rintro e w1 ⟨rfl, hb1⟩; rw [he])
          refine ⟨⟨2, by omega, rfl, hbr.trans (hb1.mono hbr.size), ?_⟩, by simp [intOf]⟩
          intro i h1 hi
          by_cases hi2 : i = 1
          · subst hi2; exact he
          · exact hall.out i h1 (by omega)
        · have HR : Hid (idxK s = 1) := by show _ = _; unfold idxK; rw [if_pos he]
          go_wp2_with (refine (xn1_any sAffine s _ _ b _ (by exact hbr2) (by exact hcr)).mono ?_; rintro e w1 ⟨rfl, hb1⟩; rw [he])
          go_returns
          exact ⟨by rw [HR.out]; rfl, hbr.trans (hb1.mono hbr.size)⟩
      · cases he : eqS sHomog s
        · go_wp2_with (refine (xn1_any sHomog s _ _ b _ (by exact hbr2) (by exact hcr)).mono ?_; rintro e w1 ⟨rfl, hb1⟩; rw [he])
          refine ⟨⟨3, by omega, rfl, hbr.trans (hb1.mono hbr.size), ?_⟩, by simp [intOf]⟩
          intro i h1 hi
          by_cases hi2 : i = 2
          · subst hi2; exact he
          · exact hall.out i h1 (by omega)
        · have HR : Hid (idxK s = 2) := by show _ = _; unfold idxK; rw [if_neg (by have := hall.out 1 (by omega) (by omega); rw [show nmK 1 = sAffine from rfl] at this; rw [this]; simp)]; rw [if_pos he]
          go_wp2_with (refine (xn1_any sHomog s _ _ b _ (by exact hbr2) (by exact hcr)).mono ?_; rintro e w1 ⟨rfl, hb1⟩; rw [he])
          go_returns
          exact ⟨by rw [HR.out]; rfl, hbr.trans (hb1.mono hbr.size)⟩
      · cases he : eqS sLens s
        · go_wp2_with (refine (xn1_any sLens s _ _ b _ (by exact hbr2) (by exact hcr)).mono ?_; rintro e w1 ⟨rfl, hb1⟩; rw [he])
          refine ⟨⟨4, by omega, rfl, hbr.trans (hb1.mono hbr.size), ?_⟩, by simp [intOf]⟩
          intro i h1 hi
          by_cases hi2 : i = 3
          · subst hi2; exact he
          · exact hall.out i h1 (by omega)
        · have HR : Hid (idxK s = 3) := by show _ = _; unfold idxK; rw [if_neg (by have := hall.out 1 (by omega) (by omega); rw [show nmK 1 = sAffine from rfl] at this; rw [this]; simp)]; rw [if_neg (by have := hall.out 2 (by omega) (by omega); rw [show nmK 2 = sHomog from rfl] at this; rw [this]; simp)]; rw [if_pos he]
          go_wp2_with (refine (xn1_any sLens s _ _ b _ (by exact hbr2) (by exact hcr)).mono ?_; rintro e w1 ⟨rfl, hb1⟩; rw [he])
          go_returns
          exact ⟨by rw [HR.out]; rfl, hbr.trans (hb1.mono hbr.size)⟩
      · cases he : eqS sMesh s
        · go_wp2_with (refine (xn1_any sMesh s _ _ b _ (by exact hbr2) (by exact hcr)).mono ?_; rintro e w1 ⟨rfl, hb1⟩; rw [he])
          refine ⟨⟨5, by omega, rfl, hbr.trans (hb1.mono hbr.size), ?_⟩, by simp [intOf]⟩
          intro i h1 hi
          by_cases hi2 : i = 4
          · subst hi2; exact he
          · exact hall.out i h1 (by omega)
        · have HR : Hid (idxK s = 4) := by show _ = _; unfold idxK; rw [if_neg (by have := hall.out 1 (by omega) (by omega); rw [show nmK 1 = sAffine from rfl] at this; rw [this]; simp)]; rw [if_neg (by have := hall.out 2 (by omega) (by omega); rw [show nmK 2 = sHomog from rfl] at this; rw [this]; simp)]; rw [if_neg (by have := hall.out 3 (by omega) (by omega); rw [show nmK 3 = sLens from rfl] at this; rw [this]; simp)]; rw [if_pos he]
          go_wp2_with (refine (xn1_any sMesh s _ _ b _ (by exact hbr2) (by exact hcr)).mono ?_; rintro e w1 ⟨rfl, hb1⟩; rw [he])
          go_returns
          exact ⟨by rw [HR.out]; rfl, hbr.trans (hb1.mono hbr.size)⟩
      · cases he : eqS sShear s
        · go_wp2_with (refine (xn1_any sShear s _ _ b _ (by exact hbr2) (by exact hcr)).mono ?_; rintro e w1 ⟨rfl, hb1⟩; rw [he])
          refine ⟨⟨6, by omega, rfl, hbr.trans (hb1.mono hbr.size), ?_⟩, by simp [intOf]⟩
          intro i h1 hi
          by_cases hi2 : i = 5
          · subst hi2; exact he
          · exact hall.out i h1 (by omega)
        · have HR : Hid (idxK s = 5) := by show _ = _; unfold idxK; rw [if_neg (by have := hall.out 1 (by omega) (by omega); rw [show nmK 1 = sAffine from rfl] at this; rw [this]; simp)]; rw [if_neg (by have := hall.out 2 (by omega) (by omega); rw [show nmK 2 = sHomog from rfl] at this; rw [this]; simp)]; rw [if_neg (by have := hall.out 3 (by omega) (by omega); rw [show nmK 3 = sLens from rfl] at this; rw [this]; simp)]; rw [if_neg (by have := hall.out 4 (by omega) (by omega); rw [show nmK 4 = sMesh from rfl] at this; rw [this]; simp)]; rw [if_pos he]
          go_wp2_with (refine (xn1_any sShear s _ _ b _ (by exact hbr2) (by exact hcr)).mono ?_; rintro e w1 ⟨rfl, hb1⟩; rw [he])
          go_returns
          exact ⟨by rw [HR.out]; rfl, hbr.trans (hb1.mono hbr.size)⟩
      · cases he : eqS sTurn s
        · go_wp2_with (refine (xn1_any sTurn s _ _ b _ (by exact hbr2) (by exact hcr)).mono ?_; rintro e w1 ⟨rfl, hb1⟩; rw [he])
          refine ⟨⟨7, by omega, rfl, hbr.trans (hb1.mono hbr.size), ?_⟩, by simp [intOf]⟩
          intro i h1 hi
          by_cases hi2 : i = 6
          · subst hi2; exact he
          · exact hall.out i h1 (by omega)
        · have HR : Hid (idxK s = 6) := by show _ = _; unfold idxK; rw [if_neg (by have := hall.out 1 (by omega) (by omega); rw [show nmK 1 = sAffine from rfl] at this; rw [this]; simp)]; rw [if_neg (by have := hall.out 2 (by omega) (by omega); rw [show nmK 2 = sHomog from rfl] at this; rw [this]; simp)]; rw [if_neg (by have := hall.out 3 (by omega) (by omega); rw [show nmK 3 = sLens from rfl] at this; rw [this]; simp)]; rw [if_neg (by have := hall.out 4 (by omega) (by omega); rw [show nmK 4 = sMesh from rfl] at this; rw [this]; simp)]; rw [if_neg (by have := hall.out 5 (by omega) (by omega); rw [show nmK 5 = sShear from rfl] at this; rw [this]; simp)]; rw [if_pos he]
          go_wp2_with (refine (xn1_any sTurn s _ _ b _ (by exact hbr2) (by exact hcr)).mono ?_; rintro e w1 ⟨rfl, hb1⟩; rw [he])
          go_returns
          exact ⟨by rw [HR.out]; rfl, hbr.trans (hb1.mono hbr.size)⟩
    · obtain rfl : k = 7 := by omega
      have HR : Hid (idxK s = -1) := by show _ = _; unfold idxK; rw [if_neg (by have := hall.out 1 (by omega) (by omega); rw [show nmK 1 = sAffine from rfl] at this; rw [this]; simp)]; rw [if_neg (by have := hall.out 2 (by omega) (by omega); rw [show nmK 2 = sHomog from rfl] at this; rw [this]; simp)]; rw [if_neg (by have := hall.out 3 (by omega) (by omega); rw [show nmK 3 = sLens from rfl] at this; rw [this]; simp)]; rw [if_neg (by have := hall.out 4 (by omega) (by omega); rw [show nmK 4 = sMesh from rfl] at this; rw [this]; simp)]; rw [if_neg (by have := hall.out 5 (by omega) (by omega); rw [show nmK 5 = sShear from rfl] at this; rw [this]; simp)]; rw [if_neg (by have := hall.out 6 (by omega) (by omega); rw [show nmK 6 = sTurn from rfl] at this; rw [this]; simp)]
      go_wp2_with fail
      go_returns
      exact ⟨by rw [HR.out]; rfl, hbr⟩
theorem idxK_bd (s : ByteArray) : -1 ≤ idxK s ∧ idxK s ≤ 6 := by
  unfold idxK
  repeat' split
  all_goals omega
set_option maxRecDepth 100000 in
set_option maxHeartbeats 4000000 in
theorem xnamed_any (s : ByteArray) (w : World) : Calls Tryz.prog 15 #[.string s] w fun e w' => e = .returned (.tuple #[.int .i64 (max (idxK s) 0), .bool (decide (0 ≤ idxK s))]) ∧ Below w.heap.size w w' := by
  have hbd := idxK_bd s
  have hL := ((Lie.start w).alloc #[.string s] 9).alloc kiA 127
  simp only [World.size_alloc] at hL
  have hX := fun w' hb hc hK => xindex_any s w.heap.size (w.heap.size + 1) w' hb hc hK
  go_enter Tryz.func15, Tryz.ntmps15
  go_wp2_with fail
  refine (kinds_any _).mono ?_
  rintro e w1 ⟨rfl, hw1⟩
  rw [hw1] at hL
  clear hw1
  have k0 := hL.k 1 (by simp)
  have hS : w1.cell? ⟨w.heap.size, 0, none⟩ = some (.string s) := k0.cell1
  have hlt : w.heap.size < w1.heap.size := k0.lt
  have hK : Bk w1 (w.heap.size + 1) 127 kiA := hL.k 0 (by simp)
  clear k0
  go_wp2_with (go_at_call 70; (with_reducible refine (hX _ (by exact hlt) (by exact hS) (by exact hK)).mono ?_); rintro e w3 ⟨rfl, hb3⟩)
  all_goals
    go_returns
    exact ⟨ret_v2 (val_int (by show _ = max (idxK s) 0; first | (simp; omega) | omega)) rfl, (hL.nx hb3).bel⟩
/-- The law's own search. -/
def wK (s : ByteArray) : Nat → Int × Bool
  | 0 => (0, false)
  | k + 1 => if (s.toList == (xnm ((k : Int) + 1)).toList) = true then ((k : Int) + 1, true) else wK s k
theorem eq_sym (x s : ByteArray) : (s.toList == x.toList) = eqS x s := by
  unfold eqS
  rw [Bool.eq_iff_iff]; simp only [beq_iff_eq]; exact eq_comm
theorem eqS_ne {x y s : ByteArray} (h : eqS x s = true) (hne : (x.toList == y.toList) = false) : eqS y s = false := by
  unfold eqS at *
  cases hy : (y.toList == s.toList)
  · rfl
  · rw [beq_iff_eq] at h hy
    rw [h, ← hy] at hne
    simp at hne
theorem wK_eq (s : ByteArray) : wK s 6 = (max (idxK s) 0, decide (0 ≤ idxK s)) := by
  show (if (s.toList == (xnm ((5 : Nat) + 1 : Int)).toList) = true then (((5 : Nat) : Int) + 1, true) else if (s.toList == (xnm ((4 : Nat) + 1 : Int)).toList) = true then (((4 : Nat) : Int) + 1, true) else if (s.toList == (xnm ((3 : Nat) + 1 : Int)).toList) = true then (((3 : Nat) : Int) + 1, true) else if (s.toList == (xnm ((2 : Nat) + 1 : Int)).toList) = true then (((2 : Nat) : Int) + 1, true) else if (s.toList == (xnm ((1 : Nat) + 1 : Int)).toList) = true then (((1 : Nat) : Int) + 1, true) else if (s.toList == (xnm ((0 : Nat) + 1 : Int)).toList) = true then (((0 : Nat) : Int) + 1, true) else ((0 : Int), false)) = _
  rw [show xnm ((5 : Nat) + 1 : Int) = sTurn from rfl, show xnm ((4 : Nat) + 1 : Int) = sShear from rfl, show xnm ((3 : Nat) + 1 : Int) = sMesh from rfl, show xnm ((2 : Nat) + 1 : Int) = sLens from rfl, show xnm ((1 : Nat) + 1 : Int) = sHomog from rfl, show xnm ((0 : Nat) + 1 : Int) = sAffine from rfl]
  rw [eq_sym, eq_sym, eq_sym, eq_sym, eq_sym, eq_sym]
  unfold idxK
  cases h0 : eqS sAffine s
  · cases h1 : eqS sHomog s
    · cases h2 : eqS sLens s
      · cases h3 : eqS sMesh s
        · cases h4 : eqS sShear s
          · cases h5 : eqS sTurn s
            · simp <;> rfl
            · simp <;> rfl
          · rw [eqS_ne h4 (y := sTurn) (by decide +kernel)]; simp <;> rfl
        · rw [eqS_ne h3 (y := sTurn) (by decide +kernel), eqS_ne h3 (y := sShear) (by decide +kernel)]; simp <;> rfl
      · rw [eqS_ne h2 (y := sTurn) (by decide +kernel), eqS_ne h2 (y := sShear) (by decide +kernel), eqS_ne h2 (y := sMesh) (by decide +kernel)]; simp <;> rfl
    · rw [eqS_ne h1 (y := sTurn) (by decide +kernel), eqS_ne h1 (y := sShear) (by decide +kernel), eqS_ne h1 (y := sMesh) (by decide +kernel), eqS_ne h1 (y := sLens) (by decide +kernel)]; simp <;> rfl
  · rw [eqS_ne h0 (y := sTurn) (by decide +kernel), eqS_ne h0 (y := sShear) (by decide +kernel), eqS_ne h0 (y := sMesh) (by decide +kernel), eqS_ne h0 (y := sLens) (by decide +kernel), eqS_ne h0 (y := sHomog) (by decide +kernel)]; simp <;> rfl
set_option maxHeartbeats 1000000 in
theorem alive24 (w : World) : Calls Tryz.prog 22 #[] w fun e w' => e = .returned (.bool true) ∧ Below w.heap.size w w' := by
  have hn := fun w' : World => (xname_any 3 w').mono (R' := fun e w'' => e = .returned (.string sLens) ∧ Below w'.heap.size w' w'') (fun e w'' ⟨h1, h2⟩ => ⟨h1, h2⟩)
  have he : (sLens.toList == [108, 101, 110, 115]) = true := by decide +kernel
  go_enter Tryz.func22, Tryz.ntmps22
  go_wp2_with (refine (hn _).mono ?_; rintro e w1 ⟨rfl, hb1⟩)
  go_returns
  exact ⟨rfl, hb1⟩
end Go.Proofs.YtlbiiljncacdoaaGreat
end
