/- shear: where a place comes from; and the reference. -/
import Derived.Test.YtlbiiljncacdoaaGreatX2
set_option linter.unusedVariables false
namespace Go.Proofs.YtlbiiljncacdoaaGreat
open Go.RowKit
def slX (l : List Int) (x y : Int) : Int := x - cf l 2 + rn (cf l 0 * (y - cf l 3))
def slY (l : List Int) (x y : Int) : Int := y - cf l 3 + rn (cf l 1 * slX l x y)
def slZ (l : List Int) (x y : Int) : Int := slX l x y + rn (cf l 0 * slY l x y)
def shU (l : List Int) (px py d : Int) : Int := 65536 * (slZ l (nrF px d) (nrF py d) + cf l 2)
def shV (l : List Int) (px py d : Int) : Int := 65536 * (slY l (nrF px d) (nrF py d) + cf l 3)
/-- bounds on the way -/
structure SlB (l : List Int) (x y : Int) : Prop where
  x0 : -1100000 ≤ x - cf l 2 ∧ x - cf l 2 ≤ 1100000
  y0 : -1100000 ≤ y - cf l 3 ∧ y - cf l 3 ≤ 1100000
  p1 : -1000000000000 ≤ cf l 0 * (y - cf l 3) ∧ cf l 0 * (y - cf l 3) ≤ 1000000000000
  x1 : -6000000 ≤ slX l x y ∧ slX l x y ≤ 6000000
  p2 : -1600000000000 / 1 ≤ cf l 1 * slX l x y ∧ cf l 1 * slX l x y ≤ 1600000000000
  y1 : -26000000 ≤ slY l x y ∧ slY l x y ≤ 26000000
  p3 : -7000000000000 ≤ cf l 0 * slY l x y ∧ cf l 0 * slY l x y ≤ 7000000000000
  x2 : -120000000 ≤ slZ l x y ∧ slZ l x y ≤ 120000000
theorem rn_bd {z B : Int} (h : -B ≤ z) (h' : z ≤ B) : -(B / 65536) - 1 ≤ rn z ∧ rn z ≤ B / 65536 + 1 := by unfold rn; omega
theorem slB {l : List Int} {x y : Int} (h : rg4 l = true) (hx : -1048577 ≤ x ∧ x ≤ 1048577) (hy : -1048577 ≤ y ∧ y ≤ 1048577) : SlB l x y := by
  obtain ⟨a, b, c, d⟩ := rg4_bd h
  have x0 : -1100000 ≤ x - cf l 2 ∧ x - cf l 2 ≤ 1100000 := by omega
  have y0 : -1100000 ≤ y - cf l 3 ∧ y - cf l 3 ≤ 1100000 := by omega
  have p1 := mulbd a.1 a.2 y0.1 y0.2
  have r1 := rn_bd p1.1 p1.2
  have x1 : -6000000 ≤ slX l x y ∧ slX l x y ≤ 6000000 := by unfold slX; omega
  have p2 := mulbd b.1 b.2 x1.1 x1.2
  have r2 := rn_bd p2.1 p2.2
  have y1 : -26000000 ≤ slY l x y ∧ slY l x y ≤ 26000000 := by unfold slY; omega
  have p3 := mulbd a.1 a.2 y1.1 y1.2
  have r3 := rn_bd p3.1 p3.2
  have x2 : -120000000 ≤ slZ l x y ∧ slZ l x y ≤ 120000000 := by unfold slZ; omega
  exact ⟨x0, y0, by omega, x1, by omega, y1, by omega, x2⟩
set_option maxRecDepth 100000 in
set_option maxHeartbeats 8000000 in
theorem sat_nil (x y d : Int) (w : World) : Calls Tryz.prog 185 #[.pointer none, .int .i64 x, .int .i64 y, .int .i64 d] w fun e w' =>
    e = .returned (.tuple #[.int .i64 0, .int .i64 0, .int .i64 10]) ∧ w = w' := by
  go_enter Tryz.func185, Tryz.ntmps185
  go_wp2_with fail
  go_returns
  exact ⟨rfl, rfl⟩
theorem right_cases (px py d : Int) : (rightH px py d = true ∧ inH px 1048576 = true ∧ inH py 1048576 = true ∧ 1 ≤ d ∧ d ≤ 16) ∨ (rightH px py d = false ∧ (inH px 1048576 = false ∨ (inH px 1048576 = true ∧ inH py 1048576 = false) ∨ (inH px 1048576 = true ∧ inH py 1048576 = true ∧ d < 1) ∨ (inH px 1048576 = true ∧ inH py 1048576 = true ∧ 1 ≤ d ∧ 16 < d))) := by
  cases h : rightH px py d
  · right
    refine ⟨rfl, ?_⟩
    have h' : ¬ rightH px py d = true := by rw [h]; simp
    rw [rightH_iff] at h'
    cases h1 : inH px 1048576
    · exact .inl rfl
    · cases h2 : inH py 1048576
      · exact .inr (.inl ⟨rfl, rfl⟩)
      · rw [inH_iff] at h1 h2
        right; right
        by_cases h3 : d < 1
        · exact .inl ⟨rfl, rfl, h3⟩
        · exact .inr ⟨rfl, rfl, by omega, by omega⟩
  · left
    have h' := rightH_iff.1 h
    exact ⟨rfl, inH_iff.2 (by omega), inH_iff.2 (by omega), by omega, by omega⟩
def shAns (l : List Int) (px py d : Int) : Value := if rightH px py d = true then .tuple #[.int .i64 (shU l px py d), .int .i64 (shV l px py d), .int .i64 0] else .tuple #[.int .i64 0, .int .i64 0, .int .i64 11]
set_option maxRecDepth 100000 in
set_option maxHeartbeats 8000000 in
theorem sat_any (l : List Int) (g : Nat) (px py d : Int) (w : World) (hK : Bk w g 240 (shA l)) (h : rg4 l = true) :
    Calls Tryz.prog 185 #[.pointer (some ⟨g, 0, none⟩), .int .i64 px, .int .i64 py, .int .i64 d] w fun e w' =>
      e = .returned (shAns l px py d) ∧ Below w.heap.size w w' := by
  have hb0 := Below.refl w.heap.size w
  rcases right_cases px py d with ⟨hp, h0, h1, h2, h3⟩ | ⟨hp, hc⟩
  · have HA : Hid (shAns l px py d = .tuple #[.int .i64 (shU l px py d), .int .i64 (shV l px py d), .int .i64 0]) := by show _ = _; unfold shAns; rw [if_pos hp]
    have i0 := inH_iff.1 h0
    have i1 := inH_iff.1 h1
    have n0 := nr_bd (B := 1048576) h2 i0.1 i0.2 (by decide)
    have n1 := nr_bd (B := 1048576) h2 i1.1 i1.2 (by decide)
    have hN0 := fun w' => qnear_any px d w' h2 (by omega) (by omega) (by omega)
    have hN1 := fun w' => qnear_any py d w' h2 (by omega) (by omega) (by omega)
    obtain ⟨x0, y0, p1, x1, p2, y1, p3, x2⟩ := slB (x := nrF px d) (y := nrF py d) h (by omega) (by omega)
    have bd := rg4_bd h
    unfold shU shV at HA
    clear hp h i0 i1
    generalize nrF px d = X at *
    generalize nrF py d = Y at *
    obtain ⟨x00, x01⟩ := x0
    obtain ⟨y00, y01⟩ := y0
    obtain ⟨p10, p11⟩ := p1
    obtain ⟨x10, x11⟩ := x1
    obtain ⟨p20, p21⟩ := p2
    obtain ⟨y10, y11⟩ := y1
    obtain ⟨p30, p31⟩ := p3
    obtain ⟨x20, x21⟩ := x2
    obtain ⟨⟨b00, b01⟩, ⟨b10, b11⟩, ⟨b20, b21⟩, b30, b31⟩ := bd
    have EX := Lib.hid (show slX l X Y = X - cf l 2 + rn (cf l 0 * (Y - cf l 3)) from rfl)
    have EY := Lib.hid (show slY l X Y = Y - cf l 3 + rn (cf l 1 * slX l X Y) from rfl)
    have EZ := Lib.hid (show slZ l X Y = slX l X Y + rn (cf l 0 * slY l X Y) from rfl)
    unfold shA at hK
    have hL : Lie w [(g, 240, #[.int .i64 (cf l 0), .int .i64 (cf l 1), .int .i64 (cf l 2), .int .i64 (cf l 3)])] w := ⟨hb0, by intro x hx; rw [List.mem_singleton] at hx; subst hx; exact hK⟩
    have hg := hK.lt
    clear hb0 hK
    generalize slX l X Y = P at *
    generalize slY l X Y = Q at *
    generalize slZ l X Y = R at *
    generalize cf l 0 = a at *
    generalize cf l 1 = b at *
    generalize cf l 2 = cx at *
    generalize cf l 3 = cy at *
    go_enter Tryz.func185, Tryz.ntmps185
    go_wp2_with (first
      | (go_at_call 234; (with_reducible refine (sin_any _ _ _ (by decide) (by decide)).mono ?_); rintro e w' ⟨rfl, rfl⟩; first | rw [h0] | rw [h1]))
    refine (hN0 _).mono ?_
    rintro e w1 ⟨rfl, hb1⟩
    replace hL := hL.nx hb1
    go_wp2_with fail
    refine (hN1 _).mono ?_
    rintro e w2 ⟨rfl, hb2⟩
    replace hL := hL.nx hb2
    have hs2 : w.heap.size ≤ w2.heap.size := hL.sz
    clear hb1 hb2 hN0 hN1
    obtain ⟨c0, c1, c2, c3⟩ := (hL.k 0 (by simp)).cell4
    simp only [List.getElem_cons_zero] at c0 c1 c2 c3
    go_wp2_with fail
    go_still_tail 13, (by kernel_rfl)
    change wpList _ _ _ _ _ w2.drew
    replace hL := hL.drew
    have hL2 := hL.alloc #[.int .i64 (X - cx), .int .i64 (Y - cy)] 278
    have hgw := hL.k 0 (by simp)
    have hsz : w.heap.size ≤ w2.drew.heap.size := hL.sz
    have hg2 : g < w2.drew.heap.size := hgw.lt
    clear c0 c1 c2 c3 hL hgw
    generalize w2.drew = w3 at *
    go_upto_region 9 with fail
    generalize hgp : w3.heap.size = gp at *
    generalize w3.alloc (.cells #[.int .i64 (X - cx), .int .i64 (Y - cy)] 278) = w4 at *
    have kp : Bk w4 gp 278 #[.int .i64 (X - cx), .int .i64 (Y - cy)] := hL2.k 0 (by simp)
    obtain ⟨c0, c1, c2, c3⟩ := (hL2.k 1 (by simp)).cell4
    simp only [List.getElem_cons_zero, List.getElem_cons_succ] at c0 c1 c2 c3
    clear hgp
    go_wp2_with fail
    refine (across_any gp _ _ a _ kp (by omega) (by omega) (by omega) (by omega)).mono ?_
    rintro e w5 ⟨rfl, kp5, hg5⟩
    rw [← EX.out] at kp5
    have hL5 := hL2.set hg5 kp5 hsz (by intro x hx; rw [List.mem_singleton] at hx; subst hx; simp; omega)
    clear c0 c1 c2 c3 kp hg5 hL2
    obtain ⟨c0, c1, c2, c3⟩ := (hL5.k 1 (by simp)).cell4
    simp only [List.getElem_cons_zero, List.getElem_cons_succ] at c0 c1 c2 c3
    go_wp2_with fail
    refine (along_any gp _ _ b _ kp5 (by omega) (by omega) (by omega) (by omega)).mono ?_
    rintro e w6 ⟨rfl, kp6, hg6⟩
    rw [← EY.out] at kp6
    have hL6 := hL5.set hg6 kp6 hsz (by intro x hx; rw [List.mem_singleton] at hx; subst hx; simp; omega)
    clear c0 c1 c2 c3 kp5 hg6 hL5
    obtain ⟨c0, c1, c2, c3⟩ := (hL6.k 1 (by simp)).cell4
    simp only [List.getElem_cons_zero, List.getElem_cons_succ] at c0 c1 c2 c3
    go_wp2_with fail
    refine (across_any gp _ _ a _ kp6 (by omega) (by omega) (by omega) (by omega)).mono ?_
    rintro e w7 ⟨rfl, kp7, hg7⟩
    rw [← EZ.out] at kp7
    have hL7 := hL6.set hg7 kp7 hsz (by intro x hx; rw [List.mem_singleton] at hx; subst hx; simp; omega)
    clear c0 c1 c2 c3 kp6 hg7 hL6
    obtain ⟨c0, c1, c2, c3⟩ := (hL7.k 1 (by simp)).cell4
    simp only [List.getElem_cons_zero, List.getElem_cons_succ] at c0 c1 c2 c3
    obtain ⟨d0, d1⟩ := kp7.cell2
    go_upto_region 12 with fail
    go_quiet (fail)
    go_wp2_with fail
    go_returns
    exact ⟨by rw [HA.out]; rfl, below_drewN hL7.bel _⟩
  · have HA : Hid (shAns l px py d = .tuple #[.int .i64 0, .int .i64 0, .int .i64 11]) := by show _ = _; unfold shAns; rw [if_neg (by rw [hp]; simp)]
    clear hp h
    rcases hc with h0 | ⟨h0, h1⟩ | ⟨h0, h1, h2⟩ | ⟨h0, h1, h2, h3⟩
    all_goals
      go_enter Tryz.func185, Tryz.ntmps185
      go_wp2_with (go_at_call 234; (with_reducible refine (sin_any _ _ _ (by decide) (by decide)).mono ?_); rintro e w' ⟨rfl, rfl⟩; first | rw [h0] | rw [h1])
      go_returns
      exact ⟨by rw [HA.out]; rfl, hb0⟩
end Go.Proofs.YtlbiiljncacdoaaGreat
