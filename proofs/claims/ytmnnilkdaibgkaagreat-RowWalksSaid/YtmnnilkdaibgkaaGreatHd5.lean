/- hdda: Skip, X, New. -/
import Derived.Test.YtmnnilkdaibgkaaGreatHdM
set_option linter.unusedVariables false
namespace Go.Proofs.YtmnnilkdaibgkaaGreat
open Go.RowKit
set_option maxRecDepth 100000 in
set_option maxHeartbeats 4000000 in
theorem skip_nil (n : Int) (w : World) : Calls Tryz.prog 35 #[.pointer none, .int .i64 n] w fun e w' => e = .returned (.bool false) ∧ w = w' := by
  go_enter Tryz.func35, Tryz.ntmps35
  go_wp2_with fail
  go_returns
  exact ⟨rfl, rfl⟩
set_option maxRecDepth 100000 in
set_option maxHeartbeats 4000000 in
theorem skip_no (a : Nat → Int) (g : Nat) (x y n : Int) (w : World) (hK : Bk w g 132 (wkT a x y)) (h : WkOk a x y) (hn : ¬ (0 ≤ n ∧ x + n ≤ 1048577)) :
    Calls Tryz.prog 35 #[.pointer (some ⟨g, 0, none⟩), .int .i64 n] w fun e w' => e = .returned (.bool false) ∧ w = w' := by
  obtain ⟨c0, c1, c2, c3, c4, c5, c6, c7, c8, c9, c10⟩ := hK.cell11
  have x0 := h.x0
  have x1 := h.x1
  by_cases hneg : n < 0
  · clear hn
    go_enter Tryz.func35, Tryz.ntmps35
    go_wp2_with fail
    go_returns
    exact ⟨rfl, rfl⟩
  · have hbig : 1048577 - x < n := by omega
    clear hn
    go_enter Tryz.func35, Tryz.ntmps35
    go_wp2_with fail
    go_returns
    exact ⟨rfl, rfl⟩
set_option maxRecDepth 100000 in
set_option maxHeartbeats 4000000 in
theorem skip_yes (a : Nat → Int) (g : Nat) (x y n : Int) (w : World) (hK : Bk w g 132 (wkT a x y)) (h : WkOk a x y) (hn : 0 ≤ n) (hn2 : x + n ≤ 1048577) :
    Calls Tryz.prog 35 #[.pointer (some ⟨g, 0, none⟩), .int .i64 n] w fun e w' => e = .returned (.bool true) ∧ Bk w' g 132 (wkT a (x + n) y) ∧ w.grownBy w' (some g) := by
  obtain ⟨c0, c1, c2, c3, c4, c5, c6, c7, c8, c9, c10⟩ := hK.cell11
  have x0 := h.x0
  have x1 := h.x1
  have su := ln_st h.ad.u (x := x) (y := y) (n := n) ⟨by omega, x1⟩ ⟨h.y0, h.y1⟩ (by omega)
  have sv := ln_st h.ad.v (x := x) (y := y) (n := n) ⟨by omega, x1⟩ ⟨h.y0, h.y1⟩ (by omega)
  have sb := ln_st h.ad.s (x := x) (y := y) (n := n) ⟨by omega, x1⟩ ⟨h.y0, h.y1⟩ (by omega)
  have hD := wstep_any g x _ (a 0) _ (a 3) _ (a 6) n w hK (by unfold J64; omega) (by omega) su sv sb
  rw [wkK_3] at hD
  have h3 : ¬ (1048577 - x < n) := by omega
  have h4 : ¬ (n < 0) := by omega
  clear su sv sb
  go_enter Tryz.func35, Tryz.ntmps35
  go_wp2_with (go_at_call 77; (with_reducible refine hD.mono ?_); rintro e w2 ⟨rfl, hK2, hg2⟩)
  go_returns
  exact ⟨rfl, hK2, hg2⟩
/-- New's code. -/
def hdC (l : List Int) (W H x y : Int) : Int := if newC l W H ≠ 0 then newC l W H else if inH x 1048576 = true ∧ inH y 1048576 = true then 0 else 11
def HdR (l : List Int) (W H x y : Int) (w w' : World) (p : Option Addr) : Prop :=
  (hdC l W H x y ≠ 0 → p = none) ∧ (hdC l W H x y = 0 → ∃ g, p = some ⟨g, 0, none⟩ ∧ w.heap.size ≤ g ∧ Bk w' g 132 (wkT (adK (cf l) 9) x y))
theorem hdC_zero {l : List Int} {W H x y : Int} : hdC l W H x y = 0 ↔ newC l W H = 0 ∧ inH x 1048576 = true ∧ inH y 1048576 = true := by
  unfold hdC
  constructor
  · intro h
    by_cases h1 : newC l W H = 0
    · by_cases h2 : inH x 1048576 = true ∧ inH y 1048576 = true
      · exact ⟨h1, h2⟩
      · rw [if_neg (by simp [h1]), if_neg h2] at h; cases h
    · rw [if_pos h1] at h; exact absurd h h1
  · rintro ⟨h1, h2⟩
    rw [if_neg (by simp [h1]), if_pos h2]
set_option maxRecDepth 100000 in
set_option maxHeartbeats 8000000 in
theorem hdnew_any (l : List Int) (A : Option Addr) (n cp : Nat) (W H x y : Int) (w : World) {B : Nat} (hl : l.length = n) (hr : Rd w B A (l.map (Value.int .i64))) (hB : B ≤ w.heap.size) (hcp : n ≤ cp) :
    Calls Tryz.prog 33 #[.slice A n cp, .int .i64 W, .int .i64 H, .int .i64 x, .int .i64 y] w fun e w' => ∃ p, e = .returned (.tuple #[.pointer p, .int .i64 (hdC l W H x y)]) ∧ HdR l W H x y w w' p ∧ Below w.heap.size w w' := by
  have hN := new_any l A n cp W H w hl hr hB hcp
  have hb0 := Below.refl w.heap.size w
  have hIx := fun w' => hdin_any x w'
  have hIy := fun w' => hdin_any y w'
  by_cases h1 : newC l W H = 0
  · have hok := newC_zero.1 h1
    have had := adOk hok.ok
    rw [h1] at hN
    simp only [NwR, h1] at hN
    by_cases h2 : inH x 1048576 = true ∧ inH y 1048576 = true
    · have e0 : hdC l W H x y = 0 := hdC_zero.2 ⟨h1, h2⟩
      simp only [HdR, e0]
      have hp : rightH x y 1 = true := rightH_iff.2 ⟨inH_iff.1 h2.1, inH_iff.1 h2.2, by omega, by omega⟩
      rw [h2.1] at hIx
      rw [h2.2] at hIy
      have hLn := fun (g : Nat) (w' : World) (hk : Bk w' g 163 (mA (adK (cf l) 9))) => lines_any (adK (cf l) 9) g w' hk
      have hB1 := fun w' => begin_any _ _ _ x y w' had.u hp
      have hB2 := fun w' => begin_any _ _ _ x y w' had.v hp
      have hB3 := fun w' => begin_any _ _ _ x y w' had.s hp
      have E : Hid (wkT (adK (cf l) 9) x y = wkA x (smR (adK (cf l) 9 0) (adK (cf l) 9 1) (adK (cf l) 9 2) x y 1) (adK (cf l) 9 0) (smR (adK (cf l) 9 3) (adK (cf l) 9 4) (adK (cf l) 9 5) x y 1) (adK (cf l) 9 3) (smR (adK (cf l) 9 6) (adK (cf l) 9 7) (adK (cf l) 9 8) x y 1) (adK (cf l) 9 6)) := rfl
      clear h1 h2 hok had hp e0 hl hr
      generalize wkT (adK (cf l) 9) x y = WT at *
      generalize smR (adK (cf l) 9 0) (adK (cf l) 9 1) (adK (cf l) 9 2) x y 1 = s1 at *
      generalize smR (adK (cf l) 9 3) (adK (cf l) 9 4) (adK (cf l) 9 5) x y 1 = s2 at *
      generalize smR (adK (cf l) 9 6) (adK (cf l) 9 7) (adK (cf l) 9 8) x y 1 = s3 at *
      generalize adK (cf l) 9 = a at *
      go_enter Tryz.func33, Tryz.ntmps33
      go_wp2_with fail
      refine hN.mono ?_
      rintro e w1 ⟨p, rfl, ⟨_, hR⟩, hb1⟩
      obtain ⟨g, rfl, hg, hK⟩ := hR (by trivial)
      clear hR hN
      go_wp2_with (first
        | (go_at_call 73; (with_reducible refine (hIx _).mono ?_); rintro e w2 ⟨rfl, rfl⟩)
        | (go_at_call 73; (with_reducible refine (hIy _).mono ?_); rintro e w2 ⟨rfl, rfl⟩))
      refine (hLn _ _ hK).mono ?_
      rintro e w2 ⟨rfl, hb2⟩
      replace hb2 := hb1.trans (hb2.mono hb1.size)
      clear hK hLn hb1
      have hL := ((((Lie.start w2).alloc (a3 (a 0) (a 1) (a 2)) 108).alloc (a3 (a 3) (a 4) (a 5)) 108).alloc (a3 (a 6) (a 7) (a 8)) 108)
      simp only [World.size_alloc] at hL
      go_upto_region 7 with fail
      generalize ((w2.alloc (.cells #[.int .i64 (a 0), .int .i64 (a 1), .int .i64 (a 2)] 108)).alloc (.cells #[.int .i64 (a 3), .int .i64 (a 4), .int .i64 (a 5)] 108)).alloc (.cells #[.int .i64 (a 6), .int .i64 (a 7), .int .i64 (a 8)] 108) = w3 at *
      have k0 : Bk w3 w2.heap.size 108 (a3 (a 0) (a 1) (a 2)) := hL.k 2 (by simp)
      have k1 : Bk w3 (w2.heap.size + 1) 108 (a3 (a 3) (a 4) (a 5)) := hL.k 1 (by simp)
      have k2 : Bk w3 (w2.heap.size + 1 + 1) 108 (a3 (a 6) (a 7) (a 8)) := hL.k 0 (by simp)
      have hb3 := hb2.trans (hL.bel.mono hb2.size)
      refine wp_region_quiet_tail 14 (by kernel_rfl) (by kernel_rfl) ?_
      simp only [List.take_succ_cons, List.take_zero, List.drop_succ_cons, List.drop_zero]
      repeat (first | (refine wpQuiet_load rfl _ _ rfl k0 rfl Tryz.underlying108 rfl a3_info ?_; simp only [Act.put, List.setIfInBounds_toArray, List.set_cons_zero, List.set_cons_succ]) | (refine wpQuiet_load rfl _ _ rfl k1 rfl Tryz.underlying108 rfl a3_info ?_; simp only [Act.put, List.setIfInBounds_toArray, List.set_cons_zero, List.set_cons_succ]) | (refine wpQuiet_load rfl _ _ rfl k2 rfl Tryz.underlying108 rfl a3_info ?_; simp only [Act.put, List.setIfInBounds_toArray, List.set_cons_zero, List.set_cons_succ]) | go_big_quiet_step ((first | with_reducible exact quiet_below (hB1 _) | with_reducible exact quiet_below (hB2 _) | with_reducible exact quiet_below (hB3 _))) | quiet_step ((first | with_reducible exact quiet_below (hB1 _) | with_reducible exact quiet_below (hB2 _) | with_reducible exact quiet_below (hB3 _))))
      refine wpQuiet_nil ?_
      intro _ hw'
      obtain ⟨⟨d, os⟩, hw''⟩ := hw'
      subst hw''
      have hbx := hb3.trans ((below_regrown w3 d os).mono hb3.size)
      generalize Go.Sort.grow (redrawn w3 d) os = wx at *
      go_wp2_with fail
      go_returns
      refine ⟨_, rfl, ⟨fun h => absurd rfl h, fun _ => ⟨wx.heap.size, rfl, hbx.size, ?_⟩⟩, hbx.alloc hbx.size _⟩
      rw [E.out]
      exact Bk.new wx _ _
    · have e0 : hdC l W H x y = 11 := by unfold hdC; rw [if_neg (by simp [h1]), if_neg h2]
      simp only [HdR, e0]
      clear e0 h1 hok had
      cases hx : inH x 1048576
      · rw [hx] at hIx
        clear h2 hx
        go_enter Tryz.func33, Tryz.ntmps33
        go_wp2_with fail
        refine hN.mono ?_
        rintro e w1 ⟨p, rfl, _, hb1⟩
        go_wp2_with (first
          | (go_at_call 73; (with_reducible refine (hIx _).mono ?_); rintro e w2 ⟨rfl, rfl⟩))
        go_returns
        exact ⟨none, rfl, ⟨fun _ => rfl, fun h => absurd h (by decide)⟩, hb1⟩
      · have hy : inH y 1048576 = false := by
          cases hy : inH y 1048576
          · rfl
          · exact absurd ⟨hx, hy⟩ h2
        rw [hx] at hIx
        rw [hy] at hIy
        clear h2 hx hy
        go_enter Tryz.func33, Tryz.ntmps33
        go_wp2_with fail
        refine hN.mono ?_
        rintro e w1 ⟨p, rfl, _, hb1⟩
        go_wp2_with (first
          | (go_at_call 73; (with_reducible refine (hIx _).mono ?_); rintro e w2 ⟨rfl, rfl⟩)
          | (go_at_call 73; (with_reducible refine (hIy _).mono ?_); rintro e w2 ⟨rfl, rfl⟩))
        go_returns
        exact ⟨none, rfl, ⟨fun _ => rfl, fun h => absurd h (by decide)⟩, hb1⟩
  · have e0 : hdC l W H x y = newC l W H := by unfold hdC; rw [if_pos h1]
    have hnb : (newC l W H != 0) = true := by simp [h1]
    have hne := Lib.hid h1
    simp only [HdR, e0]
    simp only [NwR] at hN
    clear e0 h1
    generalize newC l W H = nc at *
    go_enter Tryz.func33, Tryz.ntmps33
    go_wp2_with fail
    refine hN.mono ?_
    rintro e w1 ⟨p, rfl, _, hb1⟩
    go_wp2_with fail
    go_returns
    exact ⟨none, rfl, ⟨fun _ => rfl, fun h => absurd h hne.out⟩, hb1⟩
end Go.Proofs.YtmnnilkdaibgkaaGreat
