/- turn: At; and the reference's turn. -/
import Derived.Test.YtlbiiljncacdoaaGreatX6
set_option linter.unusedVariables false
namespace Go.Proofs.YtlbiiljncacdoaaGreat
open Go.RowKit
set_option maxRecDepth 100000 in
set_option maxHeartbeats 8000000 in
theorem tat_nil (x y d : Int) (w : World) : Calls Tryz.prog 187 #[.pointer none, .int .i64 x, .int .i64 y, .int .i64 d] w fun e w' =>
    e = .returned (.tuple #[.int .i64 0, .int .i64 0, .int .i64 10]) ∧ w = w' := by
  go_enter Tryz.func187, Tryz.ntmps187
  go_wp2_with fail
  go_returns
  exact ⟨rfl, rfl⟩
theorem right_cases2 (px py d : Int) : (rightH px py d = true ∧ (-1048576 ≤ px ∧ px ≤ 1048576) ∧ (-1048576 ≤ py ∧ py ≤ 1048576) ∧ 1 ≤ d ∧ d ≤ 16) ∨ (rightH px py d = false ∧ ((px < -1048576) ∨ (-1048576 ≤ px ∧ 1048576 < px) ∨ (-1048576 ≤ px ∧ px ≤ 1048576 ∧ py < -1048576) ∨ (-1048576 ≤ px ∧ px ≤ 1048576 ∧ -1048576 ≤ py ∧ 1048576 < py) ∨ (-1048576 ≤ px ∧ px ≤ 1048576 ∧ -1048576 ≤ py ∧ py ≤ 1048576 ∧ d < 1) ∨ (-1048576 ≤ px ∧ px ≤ 1048576 ∧ -1048576 ≤ py ∧ py ≤ 1048576 ∧ 1 ≤ d ∧ 16 < d))) := by
  cases h : rightH px py d
  · right
    have h' : ¬ rightH px py d = true := by rw [h]; simp
    rw [rightH_iff] at h'
    exact ⟨rfl, by omega⟩
  · left
    exact ⟨rfl, rightH_iff.1 h⟩
def tuAns (l : List Int) (px py d : Int) : Value := if rightH px py d = true then .tuple #[.int .i64 (65536 * tuPx l px py d / d), .int .i64 (65536 * tuPy l px py d / d), .int .i64 0] else .tuple #[.int .i64 0, .int .i64 0, .int .i64 11]
set_option maxRecDepth 100000 in
set_option maxHeartbeats 8000000 in
theorem tat_any (l : List Int) (g : Nat) (px py d : Int) (w : World) (hK : Bk w g 281 (tuA l)) (h : TuOk l) :
    Calls Tryz.prog 187 #[.pointer (some ⟨g, 0, none⟩), .int .i64 px, .int .i64 py, .int .i64 d] w fun e w' =>
      e = .returned (tuAns l px py d) ∧ Below w.heap.size w w' := by
  have hb0 := Below.refl w.heap.size w
  rcases right_cases2 px py d with ⟨hp, ⟨a0, a1⟩, ⟨a2, a3⟩, a4, a5⟩ | ⟨hp, hc⟩
  · have HA : Hid (tuAns l px py d = .tuple #[.int .i64 (65536 * tuPx l px py d / d), .int .i64 (65536 * tuPy l px py d / d), .int .i64 0]) := by show _ = _; unfold tuAns; rw [if_pos hp]
    obtain ⟨⟨b0, b1⟩, b2, b3⟩ := tuP_bd h hp
    have hF := tfrom_any (cf l 0) (cf l 1) (cf l 2) px py d g w hK h.q h.w h.h ⟨a0, a1⟩ ⟨a2, a3⟩ ⟨a4, a5⟩
    simp only [← tuPx.eq_1, ← tuPy.eq_1] at hF
    clear hp h hK
    generalize tuPx l px py d = U at *
    generalize tuPy l px py d = V at *
    have hQ1 := fun w' => qfloor_any (65536 * U) d w' a4 (by omega) ⟨by omega, by omega⟩
    have hQ2 := fun w' => qfloor_any (65536 * V) d w' a4 (by omega) ⟨by omega, by omega⟩
    go_enter Tryz.func187, Tryz.ntmps187
    go_wp2_with fail
    refine hF.mono ?_
    rintro e w1 ⟨rfl, hb1⟩
    go_wp2_with fail
    refine (hQ1 _).mono ?_
    rintro e w2 ⟨rfl, rfl⟩
    go_wp2_with fail
    refine (hQ2 _).mono ?_
    rintro e w2 ⟨rfl, rfl⟩
    go_wp2_with fail
    go_returns
    exact ⟨by rw [HA.out]; rfl, hb1⟩
  · have HA : Hid (tuAns l px py d = .tuple #[.int .i64 0, .int .i64 0, .int .i64 11]) := by show _ = _; unfold tuAns; rw [if_neg (by rw [hp]; simp)]
    clear hp h
    rcases hc with h0 | ⟨h0, h1⟩ | ⟨h0, h1, h2⟩ | ⟨h0, h1, h2, h3⟩ | ⟨h0, h1, h2, h3, h4⟩ | ⟨h0, h1, h2, h3, h4, h5⟩
    all_goals
      go_enter Tryz.func187, Tryz.ntmps187
      go_wp2_with fail
      go_returns
      exact ⟨by rw [HA.out]; rfl, hb0⟩
set_option maxRecDepth 100000 in
set_option maxHeartbeats 8000000 in
theorem rfrom23 (l : List Int) (A : Option Addr) (cp : Nat) (x y d : Int) (w : World) {B : Nat} (h : TuOk l) (hr : Rd w B A (l.map (Value.int .i64))) (hx : -1048576 ≤ x ∧ x ≤ 1048576) (hy : -1048576 ≤ y ∧ y ≤ 1048576) (hd : 1 ≤ d ∧ d ≤ 16) :
    Calls Tryz.prog 104 #[.slice A 3 cp, .int .i64 x, .int .i64 y, .int .i64 d] w fun e w' => e = .returned (.tuple #[.int .i64 (tuPx l x y d), .int .i64 (tuPy l x y d)]) ∧ w = w' := by
  obtain ⟨b, o, rfl, hb, c0, hc⟩ := lget h.len (by decide) hr
  have c1 := hc 1 (by decide)
  have c2 := hc 2 (by decide)
  have hq := h.q
  have ha := h.w
  have hb := h.h
  unfold tuPx tuPy
  clear hc hr h
  generalize cf l 0 = q at *
  generalize cf l 1 = a at *
  generalize cf l 2 = b' at *
  have m1 := mulbd (a := a - 1) (b := d) (A := 32768) (B := 16) (by omega) (by omega) (by omega) (by omega)
  have m2 := mulbd (a := b' - 1) (b := d) (A := 32768) (B := 16) (by omega) (by omega) (by omega) (by omega)
  obtain ⟨m10, m11⟩ := m1
  obtain ⟨m20, m21⟩ := m2
  have hq8 : q = 0 ∨ q = 1 ∨ q = 2 ∨ q = 3 ∨ q = 4 ∨ q = 5 ∨ q = 6 ∨ q = 7 := by omega
  clear hq
  rcases hq8 with rfl | rfl | rfl | rfl | rfl | rfl | rfl | rfl
  all_goals
    go_enter Tryz.func104, Tryz.ntmps104
    go_wp2_with fail
    go_returns
    exact ⟨ret_t2 (by simp [tuU, tu0]) (by simp [tuV]), rfl⟩
set_option maxHeartbeats 4000000 in
theorem rat23 (l : List Int) (A : Option Addr) (cp : Nat) (x y d : Int) (w : World) {B : Nat} (h : TuOk l) (hr : Rd w B A (l.map (Value.int .i64))) (hp : rightH x y d = true) :
    Calls Tryz.prog 87 #[.slice A 3 cp, .int .i64 x, .int .i64 y, .int .i64 d] w fun e w' => e = .returned (.tuple #[.int .i64 (65536 * tuPx l x y d / d), .int .i64 (65536 * tuPy l x y d / d)]) ∧ w = w' := by
  obtain ⟨⟨b0, b1⟩, b2, b3⟩ := tuP_bd h hp
  obtain ⟨a0, a1, a2, a3⟩ := rightH_iff.1 hp
  have hF := rfrom23 l A cp x y d w h hr a0 a1 ⟨a2, a3⟩
  clear hp h hr
  generalize tuPx l x y d = U at *
  generalize tuPy l x y d = V at *
  have hD1 := fun w' => rdown_any (65536 * U) d w' a2 ⟨by omega, by omega⟩ (by omega)
  have hD2 := fun w' => rdown_any (65536 * V) d w' a2 ⟨by omega, by omega⟩ (by omega)
  go_enter Tryz.func87, Tryz.ntmps87
  go_wp2_with fail
  refine hF.mono ?_
  rintro e w1 ⟨rfl, rfl⟩
  go_wp2_with fail
  refine (hD1 _).mono ?_
  rintro e w2 ⟨rfl, rfl⟩
  go_wp2_with fail
  refine (hD2 _).mono ?_
  rintro e w2 ⟨rfl, rfl⟩
  go_wp2_with fail
  go_returns
  exact ⟨rfl, rfl⟩
end Go.Proofs.YtlbiiljncacdoaaGreat
