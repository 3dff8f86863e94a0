/- Several texts in one: turn: where a place comes from. turn: At; and the reference's turn. xform: kinds and their names. xform: the kind of a name. -/
import Derived.Test.YtencbfmcmpmdnaaGreatDoorK4
import Derived.Deep.RegionHeld3
import Derived.Test.YtencbfmcmpmdnaaGreatDoorLie
section
set_option linter.unusedVariables false
namespace Go.Proofs.YtencbfmcmpmdnaaGreatDoor
open Go.RowKit
abbrev plV (x y W H : Int) : Value := .agg #[.int .i64 x, .int .i64 y, .int .i64 W, .int .i64 H]
abbrev plA (x y W H : Int) : Array Value := #[.int .i64 x, .int .i64 y, .int .i64 W, .int .i64 H]
/-- near enough -/
def Nr (x : Int) : Prop := -1099511627776 ≤ x ∧ x ≤ 1099511627776
set_option maxHeartbeats 1000000 in
theorem pnone_any (x y W H : Int) (w : World) (h1 : Nr x) (h2 : Nr y) (h3 : Nr W) (h4 : Nr H) : Calls Tryz.prog 224 #[plV x y W H] w fun e w' => e = .returned (.tuple #[.int .i64 x, .int .i64 y]) ∧ Below w.heap.size w w' := by
  have hb := (Below.refl w.heap.size w).alloc (Nat.le_refl _) (.cells (plA x y W H) 281)
  unfold Nr at *
  go_enter Tryz.func224, Tryz.ntmps224
  go_wp2_with fail
  go_quiet (fail)
  go_wp2_with fail
  go_returns
  exact ⟨rfl, below_drewN hb _⟩
set_option maxHeartbeats 1000000 in
theorem ponce_any (x y W H : Int) (w : World) (h1 : Nr x) (h2 : Nr y) (h3 : Nr W) (h4 : Nr H) : Calls Tryz.prog 225 #[plV x y W H] w fun e w' => e = .returned (.tuple #[.int .i64 y, .int .i64 (H - x)]) ∧ Below w.heap.size w w' := by
  have hb := (Below.refl w.heap.size w).alloc (Nat.le_refl _) (.cells (plA x y W H) 281)
  unfold Nr at *
  have e1 : IntKind.i64.wrap (H - x) = H - x := IntWalk.i64_in _ ⟨by omega, by omega⟩
  go_enter Tryz.func225, Tryz.ntmps225
  go_wp2_with fail
  go_quiet (fail)
  go_wp2_with fail
  go_returns
  exact ⟨rfl, below_drewN hb _⟩
set_option maxHeartbeats 1000000 in
theorem ptwice_any (x y W H : Int) (w : World) (h1 : Nr x) (h2 : Nr y) (h3 : Nr W) (h4 : Nr H) : Calls Tryz.prog 226 #[plV x y W H] w fun e w' => e = .returned (.tuple #[.int .i64 (W - x), .int .i64 (H - y)]) ∧ Below w.heap.size w w' := by
  have hb := (Below.refl w.heap.size w).alloc (Nat.le_refl _) (.cells (plA x y W H) 281)
  unfold Nr at *
  have e1 : IntKind.i64.wrap (W - x) = W - x := IntWalk.i64_in _ ⟨by omega, by omega⟩
  have e2 : IntKind.i64.wrap (H - y) = H - y := IntWalk.i64_in _ ⟨by omega, by omega⟩
  go_enter Tryz.func226, Tryz.ntmps226
  go_wp2_with fail
  go_quiet (fail)
  go_wp2_with fail
  go_returns
  exact ⟨rfl, below_drewN hb _⟩
set_option maxHeartbeats 1000000 in
theorem pthrice_any (x y W H : Int) (w : World) (h1 : Nr x) (h2 : Nr y) (h3 : Nr W) (h4 : Nr H) : Calls Tryz.prog 227 #[plV x y W H] w fun e w' => e = .returned (.tuple #[.int .i64 (W - y), .int .i64 x]) ∧ Below w.heap.size w w' := by
  have hb := (Below.refl w.heap.size w).alloc (Nat.le_refl _) (.cells (plA x y W H) 281)
  unfold Nr at *
  have e1 : IntKind.i64.wrap (W - y) = W - y := IntWalk.i64_in _ ⟨by omega, by omega⟩
  go_enter Tryz.func227, Tryz.ntmps227
  go_wp2_with fail
  go_quiet (fail)
  go_wp2_with fail
  go_returns
  exact ⟨rfl, below_drewN hb _⟩
theorem qu_ix0 (w : World) : (Instr.index 283 (.agg quA) (.int .i64 0)).run Tryz.prog w = .ok (.func (.func 224) #[] #[]) w := by kernel_rfl
theorem qu_ix1 (w : World) : (Instr.index 283 (.agg quA) (.int .i64 1)).run Tryz.prog w = .ok (.func (.func 225) #[] #[]) w := by kernel_rfl
theorem qu_ix2 (w : World) : (Instr.index 283 (.agg quA) (.int .i64 2)).run Tryz.prog w = .ok (.func (.func 226) #[] #[]) w := by kernel_rfl
theorem qu_ix3 (w : World) : (Instr.index 283 (.agg quA) (.int .i64 3)).run Tryz.prog w = .ok (.func (.func 227) #[] #[]) w := by kernel_rfl
theorem keep2 {w w' : World} {g i j : Nat} {u v : Value} (c : w.cell? ⟨g, i, none⟩ = some u) (d : w.cell? ⟨g, j, none⟩ = some v) (hg : g < w.heap.size) (hb : Below w.heap.size w w') :
    (w'.cell? ⟨g, i, none⟩ = some u ∧ w'.cell? ⟨g, j, none⟩ = some v) ∧ Below w.heap.size w w' := ⟨⟨(hb.cell (p := ⟨g, i, none⟩) hg).trans c, (hb.cell (p := ⟨g, j, none⟩) hg).trans d⟩, hb⟩
set_option maxRecDepth 100000 in
set_option maxHeartbeats 8000000 in
theorem tfrom_any (q a b x y d : Int) (g : Nat) (w : World) (hK : Bk w g 230 #[.int .i64 q, .int .i64 a, .int .i64 b]) (hq : 0 ≤ q ∧ q ≤ 7) (ha : 1 ≤ a ∧ a ≤ 32768) (hb : 1 ≤ b ∧ b ≤ 32768) (hx : -1048576 ≤ x ∧ x ≤ 1048576) (hy : -1048576 ≤ y ∧ y ≤ 1048576) (hd : 1 ≤ d ∧ d ≤ 16) :
    Calls Tryz.prog 164 #[.pointer (some ⟨g, 0, none⟩), .int .i64 x, .int .i64 y, .int .i64 d] w fun e w' => e = .returned (.tuple #[.int .i64 (tuU q ((a - 1) * d) ((b - 1) * d) x y), .int .i64 (tuV q ((a - 1) * d) ((b - 1) * d) x y)]) ∧ Below w.heap.size w w' := by
  have hb0 := Below.refl w.heap.size w
  have m1 := mulbd (a := a - 1) (b := d) (A := 32768) (B := 16) (by omega) (by omega) (by omega) (by omega)
  have m2 := mulbd (a := b - 1) (b := d) (A := 32768) (B := 16) (by omega) (by omega) (by omega) (by omega)
  have e1 : IntKind.i64.wrap (a - 1) = a - 1 := IntWalk.i64_in _ ⟨by omega, by omega⟩
  have e2 : IntKind.i64.wrap (b - 1) = b - 1 := IntWalk.i64_in _ ⟨by omega, by omega⟩
  have e3 : IntKind.i64.wrap ((a - 1) * d) = (a - 1) * d := IntWalk.i64_in _ ⟨by omega, by omega⟩
  have e4 : IntKind.i64.wrap ((b - 1) * d) = (b - 1) * d := IntWalk.i64_in _ ⟨by omega, by omega⟩
  obtain ⟨W, hW⟩ : ∃ W, (a - 1) * d = W := ⟨_, rfl⟩
  obtain ⟨H, hH⟩ : ∃ H, (b - 1) * d = H := ⟨_, rfl⟩
  replace e3 := e3.trans hW
  replace e4 := e4.trans hH
  rw [hW] at m1 ⊢
  rw [hH] at m2 ⊢
  have hWn : Nr W := by unfold Nr; omega
  have hF0 := fun w' => pnone_any x y W H w' (by unfold Nr; omega) (by unfold Nr; omega) (by unfold Nr; omega) (by unfold Nr; omega)
  have hF1 := fun w' => ponce_any x y W H w' (by unfold Nr; omega) (by unfold Nr; omega) (by unfold Nr; omega) (by unfold Nr; omega)
  have hF2 := fun w' => ptwice_any x y W H w' (by unfold Nr; omega) (by unfold Nr; omega) (by unfold Nr; omega) (by unfold Nr; omega)
  have hF3 := fun w' => pthrice_any x y W H w' (by unfold Nr; omega) (by unfold Nr; omega) (by unfold Nr; omega) (by unfold Nr; omega)
  have hQ := fun w' => quarters_any w'
  clear hW hH ha hb m1 m2
  obtain ⟨c0, c1, c2⟩ := hK.cell3
  go_enter Tryz.func164, Tryz.ntmps164
  go_wp2_with fail
  have hlt := hK.lt
  go_region_held3 (fun w' => (w'.cell? ⟨g, 1, none⟩ = some (.int .i64 a) ∧ w'.cell? ⟨g, 2, none⟩ = some (.int .i64 b)) ∧ Below w.heap.size w w')
    ((refine keep2 c1 c2 hlt ?_; go_grown))
    (fail)
  rename_i hHeld
  clear hHeld
  have hL := ((Lie.start w).alloc (plA x y W H) 281).drew
  have hG := (hK.alloc (.cells (plA x y W H) 281)).drew
  have hbw := hL.bel

  have kp : Bk _ w.heap.size 281 (plA x y W H) := hL.k 0 (by simp)
  generalize hpl : w.heap.size = gp at *
  generalize (w.alloc (.cells (plA x y W H) 281)).drew = w1 at *
  clear e1 e2 e3 e4 c0 c1 c2 hlt hK hL hb0
  obtain ⟨c0, c1, c2⟩ := hG.cell3
  have hq8 : q = 0 ∨ q = 1 ∨ q = 2 ∨ q = 3 ∨ q = 4 ∨ q = 5 ∨ q = 6 ∨ q = 7 := by omega
  clear hq
  rcases hq8 with rfl | rfl | rfl | rfl | rfl | rfl | rfl | rfl
  all_goals
    have k0 := fun (n : Nat) (os : Array Obj) => cell_regrown c0 n os
    have i0 := qu_ix0
    have i1 := qu_ix1
    have i2 := qu_ix2
    have i3 := qu_ix3
    go_wp2_with fail
    refine wp_region_quiet_below (by kernel_rfl) (by kernel_rfl) ?_
    repeat (first
      | (refine wpQuiet_load rfl _ _ rfl kp rfl Tryz.underlying281 rfl (by kernel_rfl) ?_; simp only [Act.put, List.setIfInBounds_toArray, List.set_cons_zero, List.set_cons_succ])
      | go_big_quiet_step ((first | with_reducible exact quiet_below (hQ _) | with_reducible exact quiet_below (hF0 _) | with_reducible exact quiet_below (hF1 _) | with_reducible exact quiet_below (hF2 _) | with_reducible exact quiet_below (hF3 _)))
      | quiet_step ((first | with_reducible exact quiet_below (hQ _) | with_reducible exact quiet_below (hF0 _) | with_reducible exact quiet_below (hF1 _) | with_reducible exact quiet_below (hF2 _) | with_reducible exact quiet_below (hF3 _))))
    refine wpQuiet_nil ?_
    intro _ hw'
    obtain ⟨⟨d9, os⟩, hw''⟩ := hw'
    subst hw''
    have hbx := below_regrown w1 d9 os
    generalize Go.Sort.grow (redrawn w1 d9) os = wx at *
    have hbz : Below w.heap.size w wx := by rw [hpl]; exact hbw.trans (hbx.mono (by rw [← hpl]; exact hbw.size))
    replace kp := kp.nx hbx
    replace hG := hG.nx hbx
    clear k0 i0 i1 i2 i3 c0 c1 c2 hF0 hF1 hF2 hF3 hQ hbw hbx hpl
    obtain ⟨c0, c1, c2⟩ := hG.cell3
    obtain ⟨p0, p1, p2, p3⟩ := kp.cell4
    unfold Nr at hWn
    obtain ⟨n0, n1⟩ := hWn
    go_wp2_with fail
    go_returns
    exact ⟨ret_t2 (by simp [tuU, tu0]) (by simp [tuV]), hbz⟩
def tuPx (l : List Int) (px py d : Int) : Int := tuU (cf l 0) ((cf l 1 - 1) * d) ((cf l 2 - 1) * d) px py
def tuPy (l : List Int) (px py d : Int) : Int := tuV (cf l 0) ((cf l 1 - 1) * d) ((cf l 2 - 1) * d) px py
theorem tuP_bd {l : List Int} {px py d : Int} (h : TuOk l) (hp : rightH px py d = true) : (-4194304 ≤ tuPx l px py d ∧ tuPx l px py d ≤ 4194304) ∧ (-4194304 ≤ tuPy l px py d ∧ tuPy l px py d ≤ 4194304) := by
  have hp := rightH_iff.1 hp
  have h1 := h.w
  have h2 := h.h
  have m1 := mulbd (a := cf l 1 - 1) (b := d) (A := 32768) (B := 16) (by omega) (by omega) (by omega) (by omega)
  have m2 := mulbd (a := cf l 2 - 1) (b := d) (A := 32768) (B := 16) (by omega) (by omega) (by omega) (by omega)
  unfold tuPx tuPy tuU tuV tu0
  generalize (cf l 1 - 1) * d = W at *
  generalize (cf l 2 - 1) * d = H at *
  constructor
  · split <;> (split <;> (try split) <;> (try split) <;> omega)
  · split <;> (try split) <;> (try split) <;> omega
end Go.Proofs.YtencbfmcmpmdnaaGreatDoor
end
section
set_option linter.unusedVariables false
namespace Go.Proofs.YtencbfmcmpmdnaaGreatDoor
open Go.RowKit
set_option maxRecDepth 100000 in
set_option maxHeartbeats 8000000 in
theorem tat_nil (x y d : Int) (w : World) : Calls Tryz.prog 117 #[.pointer none, .int .i64 x, .int .i64 y, .int .i64 d] w fun e w' =>
    e = .returned (.tuple #[.int .i64 0, .int .i64 0, .int .i64 10]) ∧ w = w' := by
  go_enter Tryz.func117, Tryz.ntmps117
  go_wp2_with fail
  go_returns
  exact ⟨rfl, rfl⟩
theorem right_cases2 (px py d : Int) : (rightH px py d = true ∧ (-1048576 ≤ px ∧ px ≤ 1048576) ∧ (-1048576 ≤ py ∧ py ≤ 1048576) ∧ 1 ≤ d ∧ d ≤ 16) ∨ (rightH px py d = false ∧ ((px < -1048576) ∨ (-1048576 ≤ px ∧ 1048576 < px) ∨ (-1048576 ≤ px ∧ px ≤ 1048576 ∧ py < -1048576) ∨ (-1048576 ≤ px ∧ px ≤ 1048576 ∧ -1048576 ≤ py ∧ 1048576 < py) ∨ (-1048576 ≤ px ∧ px ≤ 1048576 ∧ -1048576 ≤ py ∧ py ≤ 1048576 ∧ d < 1) ∨ (-1048576 ≤ px ∧ px ≤ 1048576 ∧ -1048576 ≤ py ∧ py ≤ 1048576 ∧ 1 ≤ d ∧ 16 < d))) := by
  cases h : rightH px py d
  · right
    have h' : ¬ rightH px py d = true := by rw [h]; simp
    rw [rightH_iff] at h'
    exact ⟨rfl, by omega⟩
  · left
    exact ⟨rfl, rightH_iff.1 h⟩
def tuAns (l : List Int) (px py d : Int) : Value := if rightH px py d = true then .tuple #[.int .i64 (65536 * tuPx l px py d / d), .int .i64 (65536 * tuPy l px py d / d), .int .i64 0] else .tuple #[.int .i64 0, .int .i64 0, .int .i64 11]
set_option maxRecDepth 100000 in
set_option maxHeartbeats 8000000 in
theorem tat_any (l : List Int) (g : Nat) (px py d : Int) (w : World) (hK : Bk w g 230 (tuA l)) (h : TuOk l) :
    Calls Tryz.prog 117 #[.pointer (some ⟨g, 0, none⟩), .int .i64 px, .int .i64 py, .int .i64 d] w fun e w' =>
      e = .returned (tuAns l px py d) ∧ Below w.heap.size w w' := by
  have hb0 := Below.refl w.heap.size w
  rcases right_cases2 px py d with ⟨hp, ⟨a0, a1⟩, ⟨a2, a3⟩, a4, a5⟩ | ⟨hp, hc⟩
  · have HA : Hid (tuAns l px py d = .tuple #[.int .i64 (65536 * tuPx l px py d / d), .int .i64 (65536 * tuPy l px py d / d), .int .i64 0]) := by show _ = _; unfold tuAns; rw [if_pos hp]
    obtain ⟨⟨b0, b1⟩, b2, b3⟩ := tuP_bd h hp
    have hF := tfrom_any (cf l 0) (cf l 1) (cf l 2) px py d g w hK h.q h.w h.h ⟨a0, a1⟩ ⟨a2, a3⟩ ⟨a4, a5⟩
    simp only [← tuPx.eq_1, ← tuPy.eq_1] at hF
    clear hp h hK
    generalize tuPx l px py d = U at *
    generalize tuPy l px py d = V at *
    have hQ1 := fun w' => qfloor_any (65536 * U) d w' a4 (by omega) ⟨by omega, by omega⟩
    have hQ2 := fun w' => qfloor_any (65536 * V) d w' a4 (by omega) ⟨by omega, by omega⟩
    go_enter Tryz.func117, Tryz.ntmps117
    go_wp2_with fail
    refine hF.mono ?_
    rintro e w1 ⟨rfl, hb1⟩
    go_wp2_with fail
    refine (hQ1 _).mono ?_
    rintro e w2 ⟨rfl, rfl⟩
    go_wp2_with fail
    refine (hQ2 _).mono ?_
    rintro e w2 ⟨rfl, rfl⟩
    go_wp2_with fail
    go_returns
    exact ⟨by rw [HA.out]; rfl, hb1⟩
  · have HA : Hid (tuAns l px py d = .tuple #[.int .i64 0, .int .i64 0, .int .i64 11]) := by show _ = _; unfold tuAns; rw [if_neg (by rw [hp]; simp)]
    clear hp h
    rcases hc with h0 | ⟨h0, h1⟩ | ⟨h0, h1, h2⟩ | ⟨h0, h1, h2, h3⟩ | ⟨h0, h1, h2, h3, h4⟩ | ⟨h0, h1, h2, h3, h4, h5⟩
    all_goals
      go_enter Tryz.func117, Tryz.ntmps117
      go_wp2_with fail
      go_returns
      exact ⟨by rw [HA.out]; rfl, hb0⟩
end Go.Proofs.YtencbfmcmpmdnaaGreatDoor
end
section
set_option linter.unusedVariables false
namespace Go.Proofs.YtencbfmcmpmdnaaGreatDoor
open Go.RowKit
def sAffine : ByteArray := ⟨#[97, 102, 102, 105, 110, 101]⟩
def sHomog : ByteArray := ⟨#[104, 111, 109, 111, 103]⟩
def sLens : ByteArray := ⟨#[108, 101, 110, 115]⟩
def sMesh : ByteArray := ⟨#[109, 101, 115, 104]⟩
def sShear : ByteArray := ⟨#[115, 104, 101, 97, 114]⟩
def sTurn : ByteArray := ⟨#[116, 117, 114, 110]⟩
abbrev kiA : Array Value := #[.string ⟨#[]⟩, .int .i64 0, .nilFunc,
  .string sAffine, .int .i64 6, .func (.func 76) #[] #[],
  .string sHomog, .int .i64 9, .func (.func 77) #[] #[],
  .string sLens, .int .i64 7, .func (.func 78) #[] #[],
  .string sMesh, .int .i64 0, .func (.func 79) #[] #[],
  .string sShear, .int .i64 4, .func (.func 80) #[] #[],
  .string sTurn, .int .i64 3, .func (.func 81) #[] #[]]
set_option maxRecDepth 100000 in
theorem kinds_any (w : World) : Calls Tryz.prog 51 #[] w fun e w' => e = .returned (.slice (some ⟨w.heap.size, 0, none⟩) 7 7) ∧ w.alloc (.cells kiA 96) = w' := by
  go_enter Tryz.func51, Tryz.ntmps51
  go_wp2_with fail
  go_returns
  exact ⟨rfl, rfl⟩
theorem xis_any (k : Int) (w : World) : Calls Tryz.prog 50 #[.int .i64 k] w fun e w' => e = .returned (.bool (decide (1 ≤ k ∧ k ≤ 6))) ∧ w = w' := by
  by_cases h : 1 ≤ k
  all_goals
    go_enter Tryz.func50, Tryz.ntmps50
    go_wp2
    go_returns
    exact ⟨ret_bool (by simp <;> omega), rfl⟩
def xnm (k : Int) : ByteArray := if k = 1 then sAffine else if k = 2 then sHomog else if k = 3 then sLens else if k = 4 then sMesh else if k = 5 then sShear else if k = 6 then sTurn else ⟨#[]⟩
def xct (k : Int) : Int := if k = 1 then 6 else if k = 2 then 9 else if k = 3 then 7 else if k = 4 then 0 else if k = 5 then 4 else if k = 6 then 3 else 0
theorem six {k : Int} (h : 1 ≤ k ∧ k ≤ 6) : k = 1 ∨ k = 2 ∨ k = 3 ∨ k = 4 ∨ k = 5 ∨ k = 6 := by omega
set_option maxRecDepth 100000 in
set_option maxHeartbeats 4000000 in
theorem xname_any (k : Int) (w : World) : Calls Tryz.prog 41 #[.int .i64 k] w fun e w' => e = .returned (.string (xnm k)) ∧ Below w.heap.size w w' := by
  have hb := (Below.refl w.heap.size w).alloc (Nat.le_refl _) (.cells kiA 96)
  by_cases h : 1 ≤ k ∧ k ≤ 6
  · have hd : decide (1 ≤ k ∧ k ≤ 6) = true := decide_eq_true h
    rcases six h with rfl | rfl | rfl | rfl | rfl | rfl
    all_goals
      clear h
      go_enter Tryz.func41, Tryz.ntmps41
      go_wp2_with (first
        | (go_at_call 50; (with_reducible refine (xis_any _ _).mono ?_); rintro e w' ⟨rfl, rfl⟩; rw [hd])
        | (go_at_call 51; (with_reducible refine (kinds_any _).mono ?_); rintro e w1 ⟨rfl, rfl⟩))
      go_returns
      exact ⟨rfl, hb⟩
  · have hd : decide (1 ≤ k ∧ k ≤ 6) = false := decide_eq_false h
    have HN : Hid (xnm k = ⟨#[]⟩) := by show _ = _; unfold xnm; rw [if_neg (by omega), if_neg (by omega), if_neg (by omega), if_neg (by omega), if_neg (by omega), if_neg (by omega)]
    have hb0 := Below.refl w.heap.size w
    clear h
    go_enter Tryz.func41, Tryz.ntmps41
    go_wp2_with (go_at_call 50; (with_reducible refine (xis_any _ _).mono ?_); rintro e w' ⟨rfl, rfl⟩; rw [hd])
    go_returns
    exact ⟨by rw [HN.out]; rfl, hb0⟩
set_option maxRecDepth 100000 in
set_option maxHeartbeats 4000000 in
theorem xcount_any (k : Int) (w : World) : Calls Tryz.prog 60 #[.int .i64 k] w fun e w' => e = .returned (.int .i64 (xct k)) ∧ Below w.heap.size w w' := by
  have hb := (Below.refl w.heap.size w).alloc (Nat.le_refl _) (.cells kiA 96)
  by_cases h : 1 ≤ k ∧ k ≤ 6
  · have hd : decide (1 ≤ k ∧ k ≤ 6) = true := decide_eq_true h
    rcases six h with rfl | rfl | rfl | rfl | rfl | rfl
    all_goals
      clear h
      go_enter Tryz.func60, Tryz.ntmps60
      go_wp2_with (first
        | (go_at_call 50; (with_reducible refine (xis_any _ _).mono ?_); rintro e w' ⟨rfl, rfl⟩; rw [hd])
        | (go_at_call 51; (with_reducible refine (kinds_any _).mono ?_); rintro e w1 ⟨rfl, rfl⟩))
      go_returns
      exact ⟨rfl, hb⟩
  · have hd : decide (1 ≤ k ∧ k ≤ 6) = false := decide_eq_false h
    have HN : Hid (xct k = 0) := by show _ = _; unfold xct; rw [if_neg (by omega), if_neg (by omega), if_neg (by omega), if_neg (by omega), if_neg (by omega), if_neg (by omega)]
    have hb0 := Below.refl w.heap.size w
    clear h
    go_enter Tryz.func60, Tryz.ntmps60
    go_wp2_with (go_at_call 50; (with_reducible refine (xis_any _ _).mono ?_); rintro e w' ⟨rfl, rfl⟩; rw [hd])
    go_returns
    exact ⟨by rw [HN.out]; rfl, hb0⟩
theorem not_six (k : Int) (h : ¬ (1 ≤ k ∧ k ≤ 6)) : k < 1 ∨ (1 ≤ k ∧ 6 < k) := by omega
theorem neq_func (F : Fn) (bs fr : Array Value) (w : World) : (binOp .neq 94 (.func F bs fr) .nilFunc).run Tryz.prog w = .ok (.bool true) w := by
  first | kernel_rfl | rfl
theorem neq_func0 (w : World) : (binOp .neq 94 .nilFunc .nilFunc).run Tryz.prog w = .ok (.bool false) w := by
  first | kernel_rfl | rfl
theorem eql_asked (F : Fn) (bs fr : Array Value) (w : World) : (binOp .eql 90 (.func F bs fr) .nilFunc).run Tryz.prog w = .ok (.bool false) w := by
  first | kernel_rfl | rfl
theorem eql_asked0 (w : World) : (binOp .eql 90 .nilFunc .nilFunc).run Tryz.prog w = .ok (.bool true) w := by
  first | kernel_rfl | rfl
end Go.Proofs.YtencbfmcmpmdnaaGreatDoor
end
section
set_option linter.unusedVariables false
namespace Go.Proofs.YtencbfmcmpmdnaaGreatDoor
open Go.RowKit
end Go.Proofs.YtencbfmcmpmdnaaGreatDoor
end
