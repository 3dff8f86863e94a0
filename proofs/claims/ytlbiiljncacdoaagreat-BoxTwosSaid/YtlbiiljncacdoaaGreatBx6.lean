/- The law BoxTwos: the walk. -/
import Derived.Test.YtlbiiljncacdoaaGreatBx5
import Derived.BigRegion
import Derived.RegionTactic
import Derived.Deep.Cut
import Derived.Deep.DeepCutAuto
import Derived.Deep.RegionHeld3
set_option linter.unusedVariables false
namespace Go.Proofs.YtlbiiljncacdoaaGreat
open Go.RowKit
attribute [local go_sem high] run_maxM run_minM
abbrev twA (a b c d e f g h : Int) : Array Value := #[.int .i64 a, .int .i64 b, .int .i64 c, .int .i64 d, .int .i64 e, .int .i64 f, .int .i64 g, .int .i64 h]
theorem keep4 {w w' : World} {g : Nat} {u0 u1 u2 u3 : Value} (c0 : w.cell? ⟨g, 0, none⟩ = some u0) (c1 : w.cell? ⟨g, 1, none⟩ = some u1) (c2 : w.cell? ⟨g, 2, none⟩ = some u2) (c3 : w.cell? ⟨g, 3, none⟩ = some u3) (hg : g < w.heap.size) (hb : Below w.heap.size w w') :
    (w'.cell? ⟨g, 0, none⟩ = some u0 ∧ w'.cell? ⟨g, 1, none⟩ = some u1 ∧ w'.cell? ⟨g, 2, none⟩ = some u2 ∧ w'.cell? ⟨g, 3, none⟩ = some u3) ∧ Below w.heap.size w w' :=
  ⟨⟨(hb.cell (p := ⟨g, 0, none⟩) hg).trans c0, (hb.cell (p := ⟨g, 1, none⟩) hg).trans c1, (hb.cell (p := ⟨g, 2, none⟩) hg).trans c2, (hb.cell (p := ⟨g, 3, none⟩) hg).trans c3⟩, hb⟩
set_option maxRecDepth 100000 in
set_option maxHeartbeats 16000000 in
theorem walkBoxTwos (a b c d e f g h u v k : Int) (w : World) :
    Calls Tryz.prog 11 #[.agg (twA a b c d e f g h), .agg #[.int .i64 u, .int .i64 v], .int .i64 k] w fun e w' => e = .returned (.bool true) ∧ Below w.heap.size w w' := by
  have hL := ((Lie.start w).alloc (twA a b c d e f g h) 98).alloc #[.int .i64 u, .int .i64 v] 99
  simp only [World.size_alloc] at hL
  have k3 := hL.k 1 (by simp)
  have k4 := hL.k 0 (by simp)
  simp only [List.getElem_cons_zero, List.getElem_cons_succ] at k3 k4
  go_enter Tryz.func11, Tryz.ntmps11
  go_upto_region 1 with fail
  generalize hw1 : (w.alloc (.cells (twA a b c d e f g h) 98)).alloc (.cells #[.int .i64 u, .int .i64 v] 99) = w1 at *
  clear hw1
  go_cut [7, 8] (fun p q wx => ∃ g7 g8 : Nat, p = .pointer (some ⟨g7, 0, none⟩) ∧ q = .pointer (some ⟨g8, 0, none⟩) ∧ w1.heap.size ≤ g7 ∧ w1.heap.size ≤ g8 ∧ Bk wx g7 83 (rc_rectA a b c d) ∧ Bk wx g8 83 (rc_rectA e f g h) ∧ Below w1.heap.size w1 wx)
  case first =>
    obtain ⟨c0, c1, c2, c3, c4, c5, c6, c7⟩ := k3.cell8
    have hlt := k3.lt
    go_region
    · go_wp2_with fail
      go_meet
      refine ⟨_, _, rfl, rfl, Nat.le_refl _, Nat.le_succ _, ((Bk.new w1 83 (rc_rectA a b c d)).alloc _).drew, ?_, below_drewN (((Below.refl w1.heap.size w1).alloc (Nat.le_refl _) _).alloc (by simp) _) 1⟩
      have := (Bk.new (w1.alloc (.cells (rc_rectA a b c d) 83)) 83 (rc_rectA e f g h)).drew
      simpa using this
    · go_wp2_with fail
      go_meet
      refine ⟨_, _, rfl, rfl, Nat.le_succ _, Nat.le_refl _, ?_, ((Bk.new w1 83 (rc_rectA e f g h)).alloc _).drew, below_drewN (((Below.refl w1.heap.size w1).alloc (Nat.le_refl _) _).alloc (by simp) _) 1⟩
      have := (Bk.new (w1.alloc (.cells (rc_rectA e f g h) 83)) 83 (rc_rectA a b c d)).drew
      simpa using this
  case rest =>
    obtain ⟨g7, g8, rfl, rfl, hg7, hg8, k7, k8, hb2⟩ := hcut
    have hL2 := hL.nx hb2
    replace k4 := k4.nx hb2
    clear k3 hL
    obtain ⟨a0, a1, a2, a3⟩ := k7.cell4
    obtain ⟨b0, b1, b2, b3⟩ := k8.cell4
    obtain ⟨p0, p1⟩ := k4.cell2
    go_upto_region 2 with fail
    go_cut [9] (fun x wx => x = .bool (bxHas a b c d u v) ∧ wc = wx)
    case first =>
      have hc : (u < a ∧ Hid (bxHas a b c d u v = false)) ∨ (a ≤ u ∧ c < u ∧ Hid (bxHas a b c d u v = false)) ∨ (a ≤ u ∧ u ≤ c ∧ v < b ∧ Hid (bxHas a b c d u v = false)) ∨ (a ≤ u ∧ u ≤ c ∧ b ≤ v ∧ Hid (bxHas a b c d u v = decide (v ≤ d))) := by
        unfold bxHas Hid
        by_cases h1 : a ≤ u <;> by_cases h2 : u ≤ c <;> by_cases h3 : b ≤ v <;> simp [h1, h2, h3] <;> omega
      rcases hc with ⟨h1, HE⟩ | ⟨h1, h2, HE⟩ | ⟨h1, h2, h3, HE⟩ | ⟨h1, h2, h3, HE⟩
      all_goals
        go_wp2_with fail
        go_meet
        exact ⟨by rw [HE.out], rfl⟩
    case rest =>
      obtain ⟨rfl, rfl⟩ := hcut
      go_upto_region 4 with fail
      have hbA := hL2.bel.alloc hL2.sz (.cells (rc_rectA (min a e) (min b f) (max c g) (max d h)) 83)
      have kA7 := k7.alloc (.cells (rc_rectA (min a e) (min b f) (max c g) (max d h)) 83)
      have kA8 := k8.alloc (.cells (rc_rectA (min a e) (min b f) (max c g) (max d h)) 83)
      have kA4 := k4.alloc (.cells (rc_rectA (min a e) (min b f) (max c g) (max d h)) 83)
      have kA10 := Bk.new wc 83 (rc_rectA (min a e) (min b f) (max c g) (max d h))
      have hq := neq_box (min a e) (min b f) (max c g) (max d h) (min a e) (min b f) (max c g) (max d h)
      rw [show (!decide ((min a e, min b f, max c g, max d h) = (min a e, min b f, max c g, max d h))) = false by simp] at hq
      have hHas := fun w' => bxhas_any a b c d u v w'
      have hAr := fun w' => around_any a b c d e f g h w'
      generalize hB : bxHas a b c d u v = B at *
      clear hB
      generalize hw5 : wc.alloc (.cells (rc_rectA (min a e) (min b f) (max c g) (max d h)) 83) = w5 at *
      generalize hg10 : wc.heap.size = g10 at *
      clear hw5 a0 a1 a2 a3 b0 b1 b2 b3 p0 p1 k7 k8 k4 hL2 hb2 hg10 hg7 hg8
      generalize min a e = M0 at *
      generalize min b f = M1 at *
      generalize max c g = M2 at *
      generalize max d h = M3 at *
      obtain ⟨a0, a1, a2, a3⟩ := kA7.cell4
      obtain ⟨b0, b1, b2, b3⟩ := kA8.cell4
      obtain ⟨m0, m1, m2, m3⟩ := kA10.cell4
      obtain ⟨p0, p1⟩ := kA4.cell2
      have r0 := fun (n : Nat) (os : Array Obj) => cell_regrown a0 n os
      have r1 := fun (n : Nat) (os : Array Obj) => cell_regrown a1 n os
      have r2 := fun (n : Nat) (os : Array Obj) => cell_regrown a2 n os
      have r3 := fun (n : Nat) (os : Array Obj) => cell_regrown a3 n os
      have r4 := fun (n : Nat) (os : Array Obj) => cell_regrown b0 n os
      have r5 := fun (n : Nat) (os : Array Obj) => cell_regrown b1 n os
      have r6 := fun (n : Nat) (os : Array Obj) => cell_regrown b2 n os
      have r7 := fun (n : Nat) (os : Array Obj) => cell_regrown b3 n os
      have r8 := fun (n : Nat) (os : Array Obj) => cell_regrown m0 n os
      have r9 := fun (n : Nat) (os : Array Obj) => cell_regrown m1 n os
      have r10 := fun (n : Nat) (os : Array Obj) => cell_regrown m2 n os
      have r11 := fun (n : Nat) (os : Array Obj) => cell_regrown m3 n os
      have r12 := fun (n : Nat) (os : Array Obj) => cell_regrown p0 n os
      have r13 := fun (n : Nat) (os : Array Obj) => cell_regrown p1 n os
      cases B
      all_goals
        go_upto_region 4 with fail
        refine wp_region_quiet_below (by kernel_rfl) (by kernel_rfl) ?_
        repeat (first
          | go_big_quiet_step ((first | with_reducible exact quiet_below (hHas _) | with_reducible exact quiet_below (hAr _)))
          | quiet_step ((first | with_reducible exact quiet_below (hHas _) | with_reducible exact quiet_below (hAr _))))
        refine wpQuiet_nil ?_
        intro _ hw'
        obtain ⟨⟨dd, os⟩, hw''⟩ := hw'
        subst hw''
        have hbx := below_regrown w5 dd os
        generalize Go.Sort.grow (redrawn w5 dd) os = wx at *
        have kx7 := kA7.nx hbx
        have hbX := hbA.trans (hbx.mono hbA.size)
        clear r0 r1 r2 r3 r4 r5 r6 r7 r8 r9 r10 r11 r12 r13 a0 a1 a2 a3 b0 b1 b2 b3 m0 m1 m2 m3 p0 p1 kA7 kA8 kA4 kA10 hHas hAr hq hbx hbA
        obtain ⟨a0, a1, a2, a3⟩ := kx7.cell4
        go_wp2_with fail
        have hbY := hbX.alloc hbX.size (.cells (rc_rectA a b c d) 2)
        have ky7 := kx7.alloc (.cells (rc_rectA a b c d) 2)
        have kyS := Bk.new wx 2 (rc_rectA a b c d)
        generalize hgS : wx.heap.size = gS at *
        generalize hwy : wx.alloc (.cells (rc_rectA a b c d) 2) = wy at *
        clear hwy hgS kx7 a0 a1 a2 a3 hbX
        obtain ⟨a0, a1, a2, a3⟩ := ky7.cell4
        obtain ⟨s0, s1, s2, s3⟩ := kyS.cell4
        go_loop [90] (fun i => (i = .int .i64 0) ∨ (i = .int .i64 1 ∧ Hid (inH a 70368744177664 = true)) ∨ (i = .int .i64 2 ∧ Hid (inH a 70368744177664 = true) ∧ Hid (inH b 70368744177664 = true)) ∨ (i = .int .i64 3 ∧ Hid (inH a 70368744177664 = true) ∧ Hid (inH b 70368744177664 = true) ∧ Hid (inH c 70368744177664 = true)) ∨ (i = .int .i64 4 ∧ Hid (inH a 70368744177664 = true) ∧ Hid (inH b 70368744177664 = true) ∧ Hid (inH c 70368744177664 = true) ∧ Hid (inH d 70368744177664 = true))) (fun i => 5 - (intOf i).toNat)
        case atStart => exact .inl rfl
        case round =>
          rcases hrel with rfl | ⟨rfl, z0⟩ | ⟨rfl, z0, z1⟩ | ⟨rfl, z0, z1, z2⟩ | ⟨rfl, z0, z1, z2, z3⟩
          · cases hz : inH a 70368744177664
            · go_wp2_with (first
                | (go_at_call 31; (with_reducible refine (rin_any _ _ _ (by decide) (by decide)).mono ?_); rintro e w' ⟨rfl, rfl⟩; rw [hz])
                | (go_at_call 50; (with_reducible refine (alive37 _).mono ?_); rintro e wz ⟨rfl, hbz⟩))
              go_returns
              exact ⟨rfl, hbY.trans (hbz.mono hbY.size)⟩
            · have HZ := Lib.hid hz
              go_wp2_with (go_at_call 31; (with_reducible refine (rin_any _ _ _ (by decide) (by decide)).mono ?_); rintro e w' ⟨rfl, rfl⟩; rw [hz])
              exact ⟨.inr (.inl ⟨rfl, by trivial⟩), by simp [intOf]⟩
          · cases hz : inH b 70368744177664
            · go_wp2_with (first
                | (go_at_call 31; (with_reducible refine (rin_any _ _ _ (by decide) (by decide)).mono ?_); rintro e w' ⟨rfl, rfl⟩; rw [hz])
                | (go_at_call 50; (with_reducible refine (alive37 _).mono ?_); rintro e wz ⟨rfl, hbz⟩))
              go_returns
              exact ⟨rfl, hbY.trans (hbz.mono hbY.size)⟩
            · have HZ := Lib.hid hz
              go_wp2_with (go_at_call 31; (with_reducible refine (rin_any _ _ _ (by decide) (by decide)).mono ?_); rintro e w' ⟨rfl, rfl⟩; rw [hz])
              exact ⟨.inr (.inr (.inl ⟨rfl, z0, by trivial⟩)), by simp [intOf]⟩
          · cases hz : inH c 70368744177664
            · go_wp2_with (first
                | (go_at_call 31; (with_reducible refine (rin_any _ _ _ (by decide) (by decide)).mono ?_); rintro e w' ⟨rfl, rfl⟩; rw [hz])
                | (go_at_call 50; (with_reducible refine (alive37 _).mono ?_); rintro e wz ⟨rfl, hbz⟩))
              go_returns
              exact ⟨rfl, hbY.trans (hbz.mono hbY.size)⟩
            · have HZ := Lib.hid hz
              go_wp2_with (go_at_call 31; (with_reducible refine (rin_any _ _ _ (by decide) (by decide)).mono ?_); rintro e w' ⟨rfl, rfl⟩; rw [hz])
              exact ⟨.inr (.inr (.inr (.inl ⟨rfl, z0, z1, by trivial⟩))), by simp [intOf]⟩
          · cases hz : inH d 70368744177664
            · go_wp2_with (first
                | (go_at_call 31; (with_reducible refine (rin_any _ _ _ (by decide) (by decide)).mono ?_); rintro e w' ⟨rfl, rfl⟩; rw [hz])
                | (go_at_call 50; (with_reducible refine (alive37 _).mono ?_); rintro e wz ⟨rfl, hbz⟩))
              go_returns
              exact ⟨rfl, hbY.trans (hbz.mono hbY.size)⟩
            · have HZ := Lib.hid hz
              go_wp2_with (go_at_call 31; (with_reducible refine (rin_any _ _ _ (by decide) (by decide)).mono ?_); rintro e w' ⟨rfl, rfl⟩; rw [hz])
              exact ⟨.inr (.inr (.inr (.inr (⟨rfl, z0, z1, z2, by trivial⟩)))), by simp [intOf]⟩
          · have y0 := inH_iff.1 z0.out
            have y1 := inH_iff.1 z1.out
            have y2 := inH_iff.1 z2.out
            have y3 := inH_iff.1 z3.out
            have hT := fun w' => bxto_any a b c d k w' y0 y1 y2 y3
            have hR0 := fun w' => lv_rto_any a k w' y0.1 y0.2
            have hR1 := fun w' => lv_rto_any b k w' y1.1 y1.2
            have hR2 := fun w' => lv_rto_any c k w' y2.1 y2.2
            have hR3 := fun w' => lv_rto_any d k w' y3.1 y3.2
            clear z0 z1 z2 z3 y0 y1 y2 y3 s0 s1 s2 s3 kyS
            generalize lvTo a k = A at *
            generalize lvTo b k = B at *
            generalize lvTo c k = C at *
            generalize lvTo d k = D at *
            go_upto_region 12 with fail
            have hlt7 := ky7.lt
            go_cut [13] (fun q wx => ∃ g13 : Nat, q = .pointer (some ⟨g13, 0, none⟩) ∧ wy.heap.size ≤ g13 ∧ Bk wx g13 83 (rc_rectA A B C D) ∧ Below wy.heap.size wy wx)
            case first =>
              go_region_held3 (fun w' => (w'.cell? ⟨g7, 0, none⟩ = some (.int .i64 a) ∧ w'.cell? ⟨g7, 1, none⟩ = some (.int .i64 b) ∧ w'.cell? ⟨g7, 2, none⟩ = some (.int .i64 c) ∧ w'.cell? ⟨g7, 3, none⟩ = some (.int .i64 d)) ∧ Below wy.heap.size wy w')
                ((refine keep4 a0 a1 a2 a3 hlt7 ?_; go_grown))
                (first
                  | (go_at_call 56; (with_reducible refine (hR0 _).mono ?_); rintro e w' ⟨rfl, rfl⟩)
                  | (go_at_call 56; (with_reducible refine (hR1 _).mono ?_); rintro e w' ⟨rfl, rfl⟩)
                  | (go_at_call 56; (with_reducible refine (hR2 _).mono ?_); rintro e w' ⟨rfl, rfl⟩)
                  | (go_at_call 56; (with_reducible refine (hR3 _).mono ?_); rintro e w' ⟨rfl, rfl⟩))
              all_goals
                go_wp2_with fail
                go_meet
                exact ⟨wy.heap.size, rfl, Nat.le_refl _, (Bk.new wy 83 (rc_rectA A B C D)).drew, below_drewN ((Below.refl wy.heap.size wy).alloc (Nat.le_refl _) _) 1⟩
            case rest =>
              obtain ⟨g13, rfl, hg13, k13, hbx⟩ := hcut
              have kz7 := ky7.nx hbx
              have hbZ := hbY.trans (hbx.mono hbY.size)
              have hq := eql_box A B C D A B C D
              rw [show decide ((A, B, C, D) = (A, B, C, D)) = true by simp] at hq
              clear ky7 a0 a1 a2 a3 hR0 hR1 hR2 hR3 hbY hbx hlt7
              have hAl := alive37
              go_upto_region 13 with fail
              obtain ⟨a0, a1, a2, a3⟩ := kz7.cell4
              obtain ⟨m0, m1, m2, m3⟩ := k13.cell4
              have r0 := fun (n : Nat) (os : Array Obj) => cell_regrown a0 n os
              have r1 := fun (n : Nat) (os : Array Obj) => cell_regrown a1 n os
              have r2 := fun (n : Nat) (os : Array Obj) => cell_regrown a2 n os
              have r3 := fun (n : Nat) (os : Array Obj) => cell_regrown a3 n os
              have r4 := fun (n : Nat) (os : Array Obj) => cell_regrown m0 n os
              have r5 := fun (n : Nat) (os : Array Obj) => cell_regrown m1 n os
              have r6 := fun (n : Nat) (os : Array Obj) => cell_regrown m2 n os
              have r7 := fun (n : Nat) (os : Array Obj) => cell_regrown m3 n os
              refine wp_region_quiet_below (by kernel_rfl) (by kernel_rfl) ?_
              repeat (first
                | go_big_quiet_step ((first | with_reducible exact quiet_below (hT _) | with_reducible exact quiet_below (hAl _)))
                | quiet_step ((first | with_reducible exact quiet_below (hT _) | with_reducible exact quiet_below (hAl _))))
              refine wpQuiet_nil ?_
              intro _ hw'
              obtain ⟨⟨dd, os⟩, hw''⟩ := hw'
              subst hw''
              have hbv := below_regrown wc dd os
              generalize Go.Sort.grow (redrawn wc dd) os = wv at *
              clear r0 r1 r2 r3 r4 r5 r6 r7 a0 a1 a2 a3 m0 m1 m2 m3
              go_wp2_with fail
              go_returns
              exact ⟨rfl, hbZ.trans (hbv.mono hbZ.size)⟩
theorem ca_two : Tryz.prog.cellsOf 98 = 8 := by kernel_rfl
end Go.Proofs.YtlbiiljncacdoaaGreat
